/- Several texts of this repo, one behind the other, without what is not used here. -/
import Derived.Test.YtmnkedgmpbcicaaProg
import Derived.Test.YtmnkedgmpbcicaaUM4
set_option linter.unusedVariables false
set_option maxRecDepth 100000
namespace Go.Proofs.Ytmnkedgmpbcicaa.XI
open Go Go.X
noncomputable def dispatcherlaw14_play_does_b : Code := (Try.f30.body).getD .skip
noncomputable def dispatcherlaw14_play_does_R0 : Code := cAt [1, 0, 1, 0, 1] dispatcherlaw14_play_does_b
noncomputable def dispatcherlaw14_play_does_R1 : Code := cAt [1, 1] dispatcherlaw14_play_does_b
noncomputable def dispatcherlaw14_play_does_R2 : Code := cAt [1, 0, 1, 0, 1, 0, 0] dispatcherlaw14_play_does_b
noncomputable def dispatcherlaw14_play_does_R3 : Code := cAt [1, 0, 1, 0, 1, 0, 1] dispatcherlaw14_play_does_b
noncomputable def dispatcherlaw14_play_does_R4 : Code := cAt [1, 0, 1, 0, 1, 1, 1, 0, 0] dispatcherlaw14_play_does_b
noncomputable def dispatcherlaw14_play_does_R5 : Code := cAt [1, 0, 1, 0, 1, 1, 1, 0, 1] dispatcherlaw14_play_does_b
noncomputable def dispatcherlaw14_play_does_R6 : Code := cAt [1, 0, 1, 0, 1, 1, 1, 1, 1, 0, 0] dispatcherlaw14_play_does_b
noncomputable def dispatcherlaw14_play_does_R7 : Code := cAt [1, 0, 1, 0, 1, 1, 1, 1, 1, 0, 1] dispatcherlaw14_play_does_b
noncomputable def dispatcherlaw14_play_does_R8 : Code := cAt [1, 1, 0] dispatcherlaw14_play_does_b
noncomputable def dispatcherlaw14_play_does_R9 : Code := cAt [1, 1, 1] dispatcherlaw14_play_does_b
noncomputable def dispatcherlaw14_play_does_R10 : Code := cAt [1, 1, 1, 1, 0] dispatcherlaw14_play_does_b
noncomputable def dispatcherlaw14_play_does_R11 : Code := cAt [1, 1, 1, 1, 1] dispatcherlaw14_play_does_b
noncomputable def dispatcherlaw14_play_does_R0_F (z : At) (K : Exit → Sl → World → Prop) (ρ : Sl) (w : World) : Prop :=
  CondK (ρ 10) (W z Try.prog 150 dispatcherlaw14_play_does_R2 (seqK (sx z Try.prog 150 dispatcherlaw14_play_does_R3 K) K) ρ w) (BK Try.prog .eql 5 (.tmp 9) (.const (Value.int .u8 2)) (ρ 9) (Value.int .u8 2) w fun x29 w => CondK x29 (W z Try.prog 150 dispatcherlaw14_play_does_R4 (seqK (sx z Try.prog 150 dispatcherlaw14_play_does_R5 K) K) (up (up ρ 29 x29) 28 x29) w) (BK Try.prog .eql 5 (.tmp 9) (.const (Value.int .u8 3)) (ρ 9) (Value.int .u8 3) w fun x46 w => CondK x46 (W z Try.prog 150 dispatcherlaw14_play_does_R6 (seqK (sx z Try.prog 150 dispatcherlaw14_play_does_R7 K) K) (up (up (up (up ρ 29 x29) 28 x29) 46 x46) 45 x46) w) (K .normal (up (up (up (up ρ 29 x29) 28 x29) 46 x46) 45 x46) w)))
theorem dispatcherlaw14_play_does_R0_eq (z : At) (K : Exit → Sl → World → Prop) (ρ : Sl) (w : World) : sx z Try.prog 150 dispatcherlaw14_play_does_R0 K ρ w = dispatcherlaw14_play_does_R0_F z K ρ w := by kernel_rfl
noncomputable def dispatcherlaw14_play_does_R1_F (z : At) (K : Exit → Sl → World → Prop) (ρ : Sl) (w : World) : Prop :=
  W z Try.prog 150 dispatcherlaw14_play_does_R8 (seqK (sx z Try.prog 150 dispatcherlaw14_play_does_R9 K) K) ρ w
theorem dispatcherlaw14_play_does_R1_eq (z : At) (K : Exit → Sl → World → Prop) (ρ : Sl) (w : World) : sx z Try.prog 150 dispatcherlaw14_play_does_R1 K ρ w = dispatcherlaw14_play_does_R1_F z K ρ w := by kernel_rfl
noncomputable def dispatcherlaw14_play_does_R2_ops : Array Oper := opsOf dispatcherlaw14_play_does_R2
def dispatcherlaw14_play_does_R2_H0 (S : World → Prop) (K : Sl → World → Prop) (ρ : Sl) (w : World) : Prop :=
  HK Try.prog S (nilCk (ρ 0)) fun x14_2 => HK Try.prog S (do pure (Next.value (← Instr.fieldAt 69 x14_2 0))) fun x15_2 => HK Try.prog S (do pure (Next.value (← Instr.loadAt 27 x15_2))) fun x16_2 => HK Try.prog S (do pure (Next.value (← Instr.fieldAt 48 (ρ 3) 1))) fun x17_2 => HK Try.prog S (do pure (Next.value (← Instr.loadAt 39 x17_2))) fun x18_2 => HK Try.prog S (nilCk (ρ 0)) fun x21_2 => HK Try.prog S (do pure (Next.value (← Instr.fieldAt 69 x21_2 2))) fun x22_2 => HK Try.prog S (do pure (Next.value (← Instr.loadAt 66 x22_2))) fun x23_2 => HK Try.prog S (do pure (Next.value (← Instr.fieldAt 48 (ρ 3) 1))) fun x24_2 => HK Try.prog S (do pure (Next.value (← Instr.loadAt 39 x24_2))) fun x25_2 => K (up (up (up (up (up (up (up (up (up (up (up (up ρ 13 (ρ 0)) 14 x14_2) 15 x15_2) 16 x16_2) 17 x17_2) 18 x18_2) 20 (ρ 0)) 21 x21_2) 22 x22_2) 23 x23_2) 24 x24_2) 25 x25_2) w
theorem dispatcherlaw14_play_does_R2_q0 (S : World → Prop) (K : Sl → World → Prop) : sxh Try.prog S dispatcherlaw14_play_does_R2_ops K [(0, true), (1, true), (2, true), (3, true), (4, true), (5, true), (7, true), (8, true), (9, true), (10, true), (11, true), (12, true)] = dispatcherlaw14_play_does_R2_H0 S K := by kernel_rfl
def dispatcherlaw14_play_does_R2_H1 (S : World → Prop) (K : Sl → World → Prop) (ρ : Sl) (w : World) : Prop :=
  CK Try.prog (Value.func (Fn.func 25) #[] #[]) [(ρ 16), (ρ 18)] w fun x19_2 w => S w ∧ (CK Try.prog (Value.func (Fn.func 52) #[] #[]) [(ρ 23), (ρ 25)] w fun x26_2 w => S w ∧ (HK Try.prog S (do pure (Next.value (← (do eqGuard BinOp.eql 3 (Operand.tmp 19) (Operand.tmp 26) x19_2 x26_2; binOp BinOp.eql 3 x19_2 x26_2)))) fun x27_2 => K (up (up (up (up ρ 19 x19_2) 26 x26_2) 27 x27_2) 4 x27_2) w))
theorem dispatcherlaw14_play_does_R2_q1 (S : World → Prop) (K : Sl → World → Prop) : sxh Try.prog S dispatcherlaw14_play_does_R2_ops K [(6, false), (13, false), (14, true), (15, true)] = dispatcherlaw14_play_does_R2_H1 S K := by kernel_rfl
def dispatcherlaw14_play_does_R2_H (S : World → Prop) (K : Exit → Sl → World → Prop) (ρ : Sl) (w : World) : Prop :=
  dispatcherlaw14_play_does_R2_H0 S (dispatcherlaw14_play_does_R2_H1 S (K .normal)) ρ w
theorem dispatcherlaw14_play_does_R2_steps : planOk Try.prog 150 dispatcherlaw14_play_does_R2_ops [(0, true), (1, true), (2, true), (3, true), (4, true), (5, true), (7, true), (8, true), (9, true), (10, true), (11, true), (12, true), (6, false), (13, false), (14, true), (15, true)] (Array.replicate dispatcherlaw14_play_does_R2_ops.size false) = true :=
  by kernel_rfl
theorem dispatcherlaw14_play_does_R2_held {D : List Deferred} (S : World → Prop) {K : Exit → Sl → World → Prop} {ρ : Sl} {w : World} (hS : S { w with drawn := w.drawn + 1 }) (h : dispatcherlaw14_play_does_R2_H S K ρ { w with drawn := w.drawn + 1 }) : W ⟨none, D⟩ Try.prog 150 dispatcherlaw14_play_does_R2 K ρ w := by
  have e : dispatcherlaw14_play_does_R2 = .region (idOf dispatcherlaw14_play_does_R2) dispatcherlaw14_play_does_R2_ops true := by kernel_rfl
  have q : sxh Try.prog S dispatcherlaw14_play_does_R2_ops (K .normal) [(0, true), (1, true), (2, true), (3, true), (4, true), (5, true), (7, true), (8, true), (9, true), (10, true), (11, true), (12, true), (6, false), (13, false), (14, true), (15, true)] ρ { w with drawn := w.drawn + 1 } = dispatcherlaw14_play_does_R2_H S K ρ { w with drawn := w.drawn + 1 } := by
    show sxh Try.prog S dispatcherlaw14_play_does_R2_ops (K .normal) ([(0, true), (1, true), (2, true), (3, true), (4, true), (5, true), (7, true), (8, true), (9, true), (10, true), (11, true), (12, true)] ++ [(6, false), (13, false), (14, true), (15, true)]) ρ { w with drawn := w.drawn + 1 } = _
    rw [sxh_append, dispatcherlaw14_play_does_R2_q1, dispatcherlaw14_play_does_R2_q0]; rfl
  rw [e]
  exact W_held S [(0, true), (1, true), (2, true), (3, true), (4, true), (5, true), (7, true), (8, true), (9, true), (10, true), (11, true), (12, true), (6, false), (13, false), (14, true), (15, true)] (by kernel_rfl) (by kernel_rfl) dispatcherlaw14_play_does_R2_steps (by kernel_rfl) hS (Eq.mpr q h)
noncomputable def dispatcherlaw14_play_does_R3_F (z : At) (K : Exit → Sl → World → Prop) (ρ : Sl) (w : World) : Prop :=
  K .ret ρ w
theorem dispatcherlaw14_play_does_R3_eq (z : At) (K : Exit → Sl → World → Prop) (ρ : Sl) (w : World) : sx z Try.prog 150 dispatcherlaw14_play_does_R3 K ρ w = dispatcherlaw14_play_does_R3_F z K ρ w := by kernel_rfl
noncomputable def dispatcherlaw14_play_does_R4_ops : Array Oper := opsOf dispatcherlaw14_play_does_R4
def dispatcherlaw14_play_does_R4_H0 (S : World → Prop) (K : Sl → World → Prop) (ρ : Sl) (w : World) : Prop :=
  HK Try.prog S (nilCk (ρ 0)) fun x31_2 => HK Try.prog S (do pure (Next.value (← Instr.fieldAt 69 x31_2 1))) fun x32_2 => HK Try.prog S (do pure (Next.value (← Instr.loadAt 28 x32_2))) fun x33_2 => HK Try.prog S (do pure (Next.value (← Instr.fieldAt 48 (ρ 3) 2))) fun x34_2 => HK Try.prog S (do pure (Next.value (← Instr.loadAt 24 x34_2))) fun x35_2 => HK Try.prog S (nilCk (ρ 0)) fun x38_2 => HK Try.prog S (do pure (Next.value (← Instr.fieldAt 69 x38_2 3))) fun x39_2 => HK Try.prog S (do pure (Next.value (← Instr.loadAt 67 x39_2))) fun x40_2 => HK Try.prog S (do pure (Next.value (← Instr.fieldAt 48 (ρ 3) 2))) fun x41_2 => HK Try.prog S (do pure (Next.value (← Instr.loadAt 24 x41_2))) fun x42_2 => K (up (up (up (up (up (up (up (up (up (up (up (up ρ 30 (ρ 0)) 31 x31_2) 32 x32_2) 33 x33_2) 34 x34_2) 35 x35_2) 37 (ρ 0)) 38 x38_2) 39 x39_2) 40 x40_2) 41 x41_2) 42 x42_2) w
theorem dispatcherlaw14_play_does_R4_q0 (S : World → Prop) (K : Sl → World → Prop) : sxh Try.prog S dispatcherlaw14_play_does_R4_ops K [(0, true), (1, true), (2, true), (3, true), (4, true), (5, true), (7, true), (8, true), (9, true), (10, true), (11, true), (12, true)] = dispatcherlaw14_play_does_R4_H0 S K := by kernel_rfl
def dispatcherlaw14_play_does_R4_H1 (S : World → Prop) (K : Sl → World → Prop) (ρ : Sl) (w : World) : Prop :=
  CK Try.prog (Value.func (Fn.func 14) #[] #[]) [(ρ 33), (ρ 35)] w fun x36_2 w => S w ∧ (CK Try.prog (Value.func (Fn.func 53) #[] #[]) [(ρ 40), (ρ 42)] w fun x43_2 w => S w ∧ (HK Try.prog S (do pure (Next.value (← (do eqGuard BinOp.eql 3 (Operand.tmp 36) (Operand.tmp 43) x36_2 x43_2; binOp BinOp.eql 3 x36_2 x43_2)))) fun x44_2 => K (up (up (up (up ρ 36 x36_2) 43 x43_2) 44 x44_2) 4 x44_2) w))
theorem dispatcherlaw14_play_does_R4_q1 (S : World → Prop) (K : Sl → World → Prop) : sxh Try.prog S dispatcherlaw14_play_does_R4_ops K [(6, false), (13, false), (14, true), (15, true)] = dispatcherlaw14_play_does_R4_H1 S K := by kernel_rfl
def dispatcherlaw14_play_does_R4_H (S : World → Prop) (K : Exit → Sl → World → Prop) (ρ : Sl) (w : World) : Prop :=
  dispatcherlaw14_play_does_R4_H0 S (dispatcherlaw14_play_does_R4_H1 S (K .normal)) ρ w
theorem dispatcherlaw14_play_does_R4_steps : planOk Try.prog 150 dispatcherlaw14_play_does_R4_ops [(0, true), (1, true), (2, true), (3, true), (4, true), (5, true), (7, true), (8, true), (9, true), (10, true), (11, true), (12, true), (6, false), (13, false), (14, true), (15, true)] (Array.replicate dispatcherlaw14_play_does_R4_ops.size false) = true :=
  by kernel_rfl
theorem dispatcherlaw14_play_does_R4_held {D : List Deferred} (S : World → Prop) {K : Exit → Sl → World → Prop} {ρ : Sl} {w : World} (hS : S { w with drawn := w.drawn + 1 }) (h : dispatcherlaw14_play_does_R4_H S K ρ { w with drawn := w.drawn + 1 }) : W ⟨none, D⟩ Try.prog 150 dispatcherlaw14_play_does_R4 K ρ w := by
  have e : dispatcherlaw14_play_does_R4 = .region (idOf dispatcherlaw14_play_does_R4) dispatcherlaw14_play_does_R4_ops true := by kernel_rfl
  have q : sxh Try.prog S dispatcherlaw14_play_does_R4_ops (K .normal) [(0, true), (1, true), (2, true), (3, true), (4, true), (5, true), (7, true), (8, true), (9, true), (10, true), (11, true), (12, true), (6, false), (13, false), (14, true), (15, true)] ρ { w with drawn := w.drawn + 1 } = dispatcherlaw14_play_does_R4_H S K ρ { w with drawn := w.drawn + 1 } := by
    show sxh Try.prog S dispatcherlaw14_play_does_R4_ops (K .normal) ([(0, true), (1, true), (2, true), (3, true), (4, true), (5, true), (7, true), (8, true), (9, true), (10, true), (11, true), (12, true)] ++ [(6, false), (13, false), (14, true), (15, true)]) ρ { w with drawn := w.drawn + 1 } = _
    rw [sxh_append, dispatcherlaw14_play_does_R4_q1, dispatcherlaw14_play_does_R4_q0]; rfl
  rw [e]
  exact W_held S [(0, true), (1, true), (2, true), (3, true), (4, true), (5, true), (7, true), (8, true), (9, true), (10, true), (11, true), (12, true), (6, false), (13, false), (14, true), (15, true)] (by kernel_rfl) (by kernel_rfl) dispatcherlaw14_play_does_R4_steps (by kernel_rfl) hS (Eq.mpr q h)
noncomputable def dispatcherlaw14_play_does_R5_F (z : At) (K : Exit → Sl → World → Prop) (ρ : Sl) (w : World) : Prop :=
  K .ret ρ w
theorem dispatcherlaw14_play_does_R5_eq (z : At) (K : Exit → Sl → World → Prop) (ρ : Sl) (w : World) : sx z Try.prog 150 dispatcherlaw14_play_does_R5 K ρ w = dispatcherlaw14_play_does_R5_F z K ρ w := by kernel_rfl
noncomputable def dispatcherlaw14_play_does_R6_ops : Array Oper := opsOf dispatcherlaw14_play_does_R6
def dispatcherlaw14_play_does_R6_H0 (S : World → Prop) (K : Sl → World → Prop) (ρ : Sl) (w : World) : Prop :=
  HK Try.prog S (nilCk (ρ 0)) fun x48_2 => HK Try.prog S (do pure (Next.value (← Instr.fieldAt 69 x48_2 1))) fun x49_2 => HK Try.prog S (do pure (Next.value (← Instr.loadAt 28 x49_2))) fun x50_2 => HK Try.prog S (nilCk (ρ 0)) fun x52_2 => HK Try.prog S (do pure (Next.value (← Instr.fieldAt 69 x52_2 0))) fun x53_2 => HK Try.prog S (do pure (Next.value (← Instr.loadAt 27 x53_2))) fun x54_2 => HK Try.prog S (do pure (Next.value (← Instr.fieldAt 48 (ρ 3) 2))) fun x55_2 => HK Try.prog S (do pure (Next.value (← Instr.fieldAt 24 x55_2 1))) fun x56_2 => HK Try.prog S (do pure (Next.value (← Instr.loadAt 3 x56_2))) fun x57_2 => HK Try.prog S (do pure (Next.value (← Instr.fieldAt 48 (ρ 3) 2))) fun x58_2 => K (up (up (up (up (up (up (up (up (up (up (up (up ρ 47 (ρ 0)) 48 x48_2) 49 x49_2) 50 x50_2) 51 (ρ 0)) 52 x52_2) 53 x53_2) 54 x54_2) 55 x55_2) 56 x56_2) 57 x57_2) 58 x58_2) w
theorem dispatcherlaw14_play_does_R6_q0 (S : World → Prop) (K : Sl → World → Prop) : sxh Try.prog S dispatcherlaw14_play_does_R6_ops K [(0, true), (1, true), (2, true), (3, true), (4, true), (5, true), (6, true), (7, true), (8, true), (9, true), (10, true), (11, true)] = dispatcherlaw14_play_does_R6_H0 S K := by kernel_rfl
def dispatcherlaw14_play_does_R6_H1 (S : World → Prop) (K : Sl → World → Prop) (ρ : Sl) (w : World) : Prop :=
  HK Try.prog S (do pure (Next.value (← Instr.fieldAt 24 (ρ 58) 2))) fun x59_2 => HK Try.prog S (do pure (Next.value (← Instr.loadAt 3 x59_2))) fun x60_2 => HK Try.prog S (do pure (Next.value (← Instr.fieldAt 48 (ρ 3) 1))) fun x61_2 => HK Try.prog S (do pure (Next.value (← Instr.fieldAt 39 x61_2 1))) fun x62_2 => HK Try.prog S (do pure (Next.value (← Instr.loadAt 3 x62_2))) fun x63_2 => HK Try.prog S (do pure (Next.value (← Instr.fieldAt 48 (ρ 3) 1))) fun x64_2 => HK Try.prog S (do pure (Next.value (← Instr.fieldAt 39 x64_2 3))) fun x65_2 => HK Try.prog S (do pure (Next.value (← Instr.loadAt 3 x65_2))) fun x66_2 => HK Try.prog S (nilCk (ρ 0)) fun x69_2 => HK Try.prog S (do pure (Next.value (← Instr.fieldAt 69 x69_2 3))) fun x70_2 => HK Try.prog S (do pure (Next.value (← Instr.loadAt 67 x70_2))) fun x71_2 => K (up (up (up (up (up (up (up (up (up (up (up (up ρ 59 x59_2) 60 x60_2) 61 x61_2) 62 x62_2) 63 x63_2) 64 x64_2) 65 x65_2) 66 x66_2) 68 (ρ 0)) 69 x69_2) 70 x70_2) 71 x71_2) w
theorem dispatcherlaw14_play_does_R6_q1 (S : World → Prop) (K : Sl → World → Prop) : sxh Try.prog S dispatcherlaw14_play_does_R6_ops K [(12, true), (13, true), (14, true), (15, true), (16, true), (17, true), (18, true), (19, true), (21, true), (22, true), (23, true), (24, true)] = dispatcherlaw14_play_does_R6_H1 S K := by kernel_rfl
def dispatcherlaw14_play_does_R6_H2 (S : World → Prop) (K : Sl → World → Prop) (ρ : Sl) (w : World) : Prop :=
  HK Try.prog S (nilCk (ρ 0)) fun x73_2 => HK Try.prog S (do pure (Next.value (← Instr.fieldAt 69 x73_2 2))) fun x74_2 => HK Try.prog S (do pure (Next.value (← Instr.loadAt 66 x74_2))) fun x75_2 => HK Try.prog S (do pure (Next.value (← Instr.fieldAt 48 (ρ 3) 2))) fun x76_2 => HK Try.prog S (do pure (Next.value (← Instr.fieldAt 24 x76_2 1))) fun x77_2 => HK Try.prog S (do pure (Next.value (← Instr.loadAt 3 x77_2))) fun x78_2 => HK Try.prog S (do pure (Next.value (← Instr.fieldAt 48 (ρ 3) 2))) fun x79_2 => HK Try.prog S (do pure (Next.value (← Instr.fieldAt 24 x79_2 2))) fun x80_2 => HK Try.prog S (do pure (Next.value (← Instr.loadAt 3 x80_2))) fun x81_2 => HK Try.prog S (do pure (Next.value (← Instr.fieldAt 48 (ρ 3) 1))) fun x82_2 => HK Try.prog S (do pure (Next.value (← Instr.fieldAt 39 x82_2 1))) fun x83_2 => K (up (up (up (up (up (up (up (up (up (up (up (up ρ 72 (ρ 0)) 73 x73_2) 74 x74_2) 75 x75_2) 76 x76_2) 77 x77_2) 78 x78_2) 79 x79_2) 80 x80_2) 81 x81_2) 82 x82_2) 83 x83_2) w
theorem dispatcherlaw14_play_does_R6_q2 (S : World → Prop) (K : Sl → World → Prop) : sxh Try.prog S dispatcherlaw14_play_does_R6_ops K [(25, true), (26, true), (27, true), (28, true), (29, true), (30, true), (31, true), (32, true), (33, true), (34, true), (35, true), (36, true)] = dispatcherlaw14_play_does_R6_H2 S K := by kernel_rfl
def dispatcherlaw14_play_does_R6_H3 (S : World → Prop) (K : Sl → World → Prop) (ρ : Sl) (w : World) : Prop :=
  HK Try.prog S (do pure (Next.value (← Instr.loadAt 3 (ρ 83)))) fun x84_2 => HK Try.prog S (do pure (Next.value (← Instr.fieldAt 48 (ρ 3) 1))) fun x85_2 => HK Try.prog S (do pure (Next.value (← Instr.fieldAt 39 x85_2 3))) fun x86_2 => HK Try.prog S (do pure (Next.value (← Instr.loadAt 3 x86_2))) fun x87_2 => CK Try.prog (Value.func (Fn.func 17) #[] #[]) [(ρ 50), (ρ 54), (ρ 57), (ρ 60), (ρ 63), (ρ 66)] w fun x67_2 w => S w ∧ (CK Try.prog (Value.func (Fn.func 54) #[] #[]) [(ρ 71), (ρ 75), (ρ 78), (ρ 81), x84_2, x87_2] w fun x88_2 w => S w ∧ (HK Try.prog S (do pure (Next.value (← (do eqGuard BinOp.eql 3 (Operand.tmp 67) (Operand.tmp 88) x67_2 x88_2; binOp BinOp.eql 3 x67_2 x88_2)))) fun x89_2 => K (up (up (up (up (up (up (up (up ρ 84 x84_2) 85 x85_2) 86 x86_2) 87 x87_2) 67 x67_2) 88 x88_2) 89 x89_2) 4 x89_2) w))
theorem dispatcherlaw14_play_does_R6_q3 (S : World → Prop) (K : Sl → World → Prop) : sxh Try.prog S dispatcherlaw14_play_does_R6_ops K [(37, true), (38, true), (39, true), (40, true), (20, false), (41, false), (42, true), (43, true)] = dispatcherlaw14_play_does_R6_H3 S K := by kernel_rfl
def dispatcherlaw14_play_does_R6_H (S : World → Prop) (K : Exit → Sl → World → Prop) (ρ : Sl) (w : World) : Prop :=
  dispatcherlaw14_play_does_R6_H0 S (dispatcherlaw14_play_does_R6_H1 S (dispatcherlaw14_play_does_R6_H2 S (dispatcherlaw14_play_does_R6_H3 S (K .normal)))) ρ w
theorem dispatcherlaw14_play_does_R6_steps : planOk Try.prog 150 dispatcherlaw14_play_does_R6_ops [(0, true), (1, true), (2, true), (3, true), (4, true), (5, true), (6, true), (7, true), (8, true), (9, true), (10, true), (11, true), (12, true), (13, true), (14, true), (15, true), (16, true), (17, true), (18, true), (19, true), (21, true), (22, true), (23, true), (24, true), (25, true), (26, true), (27, true), (28, true), (29, true), (30, true), (31, true), (32, true), (33, true), (34, true), (35, true), (36, true), (37, true), (38, true), (39, true), (40, true), (20, false), (41, false), (42, true), (43, true)] (Array.replicate dispatcherlaw14_play_does_R6_ops.size false) = true :=
  planOk_step #[true, false, false, false, false, false, false, false, false, false, false, false, false, false, false, false, false, false, false, false, false, false, false, false, false, false, false, false, false, false, false, false, false, false, false, false, false, false, false, false, false, false, false, false] (by kernel_rfl) (by kernel_rfl) (planOk_step #[true, true, false, false, false, false, false, false, false, false, false, false, false, false, false, false, false, false, false, false, false, false, false, false, false, false, false, false, false, false, false, false, false, false, false, false, false, false, false, false, false, false, false, false] (by kernel_rfl) (by kernel_rfl) (planOk_step #[true, true, true, false, false, false, false, false, false, false, false, false, false, false, false, false, false, false, false, false, false, false, false, false, false, false, false, false, false, false, false, false, false, false, false, false, false, false, false, false, false, false, false, false] (by kernel_rfl) (by kernel_rfl) (planOk_step #[true, true, true, true, false, false, false, false, false, false, false, false, false, false, false, false, false, false, false, false, false, false, false, false, false, false, false, false, false, false, false, false, false, false, false, false, false, false, false, false, false, false, false, false] (by kernel_rfl) (by kernel_rfl) (planOk_step #[true, true, true, true, true, false, false, false, false, false, false, false, false, false, false, false, false, false, false, false, false, false, false, false, false, false, false, false, false, false, false, false, false, false, false, false, false, false, false, false, false, false, false, false] (by kernel_rfl) (by kernel_rfl) (planOk_step #[true, true, true, true, true, true, false, false, false, false, false, false, false, false, false, false, false, false, false, false, false, false, false, false, false, false, false, false, false, false, false, false, false, false, false, false, false, false, false, false, false, false, false, false] (by kernel_rfl) (by kernel_rfl) (planOk_step #[true, true, true, true, true, true, true, false, false, false, false, false, false, false, false, false, false, false, false, false, false, false, false, false, false, false, false, false, false, false, false, false, false, false, false, false, false, false, false, false, false, false, false, false] (by kernel_rfl) (by kernel_rfl) (planOk_step #[true, true, true, true, true, true, true, true, false, false, false, false, false, false, false, false, false, false, false, false, false, false, false, false, false, false, false, false, false, false, false, false, false, false, false, false, false, false, false, false, false, false, false, false] (by kernel_rfl) (by kernel_rfl) (planOk_step #[true, true, true, true, true, true, true, true, true, false, false, false, false, false, false, false, false, false, false, false, false, false, false, false, false, false, false, false, false, false, false, false, false, false, false, false, false, false, false, false, false, false, false, false] (by kernel_rfl) (by kernel_rfl) (planOk_step #[true, true, true, true, true, true, true, true, true, true, false, false, false, false, false, false, false, false, false, false, false, false, false, false, false, false, false, false, false, false, false, false, false, false, false, false, false, false, false, false, false, false, false, false] (by kernel_rfl) (by kernel_rfl) (planOk_step #[true, true, true, true, true, true, true, true, true, true, true, false, false, false, false, false, false, false, false, false, false, false, false, false, false, false, false, false, false, false, false, false, false, false, false, false, false, false, false, false, false, false, false, false] (by kernel_rfl) (by kernel_rfl) (planOk_step #[true, true, true, true, true, true, true, true, true, true, true, true, false, false, false, false, false, false, false, false, false, false, false, false, false, false, false, false, false, false, false, false, false, false, false, false, false, false, false, false, false, false, false, false] (by kernel_rfl) (by kernel_rfl) (planOk_step #[true, true, true, true, true, true, true, true, true, true, true, true, true, false, false, false, false, false, false, false, false, false, false, false, false, false, false, false, false, false, false, false, false, false, false, false, false, false, false, false, false, false, false, false] (by kernel_rfl) (by kernel_rfl) (planOk_step #[true, true, true, true, true, true, true, true, true, true, true, true, true, true, false, false, false, false, false, false, false, false, false, false, false, false, false, false, false, false, false, false, false, false, false, false, false, false, false, false, false, false, false, false] (by kernel_rfl) (by kernel_rfl) (planOk_step #[true, true, true, true, true, true, true, true, true, true, true, true, true, true, true, false, false, false, false, false, false, false, false, false, false, false, false, false, false, false, false, false, false, false, false, false, false, false, false, false, false, false, false, false] (by kernel_rfl) (by kernel_rfl) (planOk_step #[true, true, true, true, true, true, true, true, true, true, true, true, true, true, true, true, false, false, false, false, false, false, false, false, false, false, false, false, false, false, false, false, false, false, false, false, false, false, false, false, false, false, false, false] (by kernel_rfl) (by kernel_rfl) (planOk_step #[true, true, true, true, true, true, true, true, true, true, true, true, true, true, true, true, true, false, false, false, false, false, false, false, false, false, false, false, false, false, false, false, false, false, false, false, false, false, false, false, false, false, false, false] (by kernel_rfl) (by kernel_rfl) (planOk_step #[true, true, true, true, true, true, true, true, true, true, true, true, true, true, true, true, true, true, false, false, false, false, false, false, false, false, false, false, false, false, false, false, false, false, false, false, false, false, false, false, false, false, false, false] (by kernel_rfl) (by kernel_rfl) (planOk_step #[true, true, true, true, true, true, true, true, true, true, true, true, true, true, true, true, true, true, true, false, false, false, false, false, false, false, false, false, false, false, false, false, false, false, false, false, false, false, false, false, false, false, false, false] (by kernel_rfl) (by kernel_rfl) (planOk_step #[true, true, true, true, true, true, true, true, true, true, true, true, true, true, true, true, true, true, true, true, false, false, false, false, false, false, false, false, false, false, false, false, false, false, false, false, false, false, false, false, false, false, false, false] (by kernel_rfl) (by kernel_rfl) (planOk_step #[true, true, true, true, true, true, true, true, true, true, true, true, true, true, true, true, true, true, true, true, false, true, false, false, false, false, false, false, false, false, false, false, false, false, false, false, false, false, false, false, false, false, false, false] (by kernel_rfl) (by kernel_rfl) (planOk_step #[true, true, true, true, true, true, true, true, true, true, true, true, true, true, true, true, true, true, true, true, false, true, true, false, false, false, false, false, false, false, false, false, false, false, false, false, false, false, false, false, false, false, false, false] (by kernel_rfl) (by kernel_rfl) (planOk_step #[true, true, true, true, true, true, true, true, true, true, true, true, true, true, true, true, true, true, true, true, false, true, true, true, false, false, false, false, false, false, false, false, false, false, false, false, false, false, false, false, false, false, false, false] (by kernel_rfl) (by kernel_rfl) (planOk_step #[true, true, true, true, true, true, true, true, true, true, true, true, true, true, true, true, true, true, true, true, false, true, true, true, true, false, false, false, false, false, false, false, false, false, false, false, false, false, false, false, false, false, false, false] (by kernel_rfl) (by kernel_rfl) (planOk_step #[true, true, true, true, true, true, true, true, true, true, true, true, true, true, true, true, true, true, true, true, false, true, true, true, true, true, false, false, false, false, false, false, false, false, false, false, false, false, false, false, false, false, false, false] (by kernel_rfl) (by kernel_rfl) (planOk_step #[true, true, true, true, true, true, true, true, true, true, true, true, true, true, true, true, true, true, true, true, false, true, true, true, true, true, true, false, false, false, false, false, false, false, false, false, false, false, false, false, false, false, false, false] (by kernel_rfl) (by kernel_rfl) (planOk_step #[true, true, true, true, true, true, true, true, true, true, true, true, true, true, true, true, true, true, true, true, false, true, true, true, true, true, true, true, false, false, false, false, false, false, false, false, false, false, false, false, false, false, false, false] (by kernel_rfl) (by kernel_rfl) (planOk_step #[true, true, true, true, true, true, true, true, true, true, true, true, true, true, true, true, true, true, true, true, false, true, true, true, true, true, true, true, true, false, false, false, false, false, false, false, false, false, false, false, false, false, false, false] (by kernel_rfl) (by kernel_rfl) (planOk_step #[true, true, true, true, true, true, true, true, true, true, true, true, true, true, true, true, true, true, true, true, false, true, true, true, true, true, true, true, true, true, false, false, false, false, false, false, false, false, false, false, false, false, false, false] (by kernel_rfl) (by kernel_rfl) (planOk_step #[true, true, true, true, true, true, true, true, true, true, true, true, true, true, true, true, true, true, true, true, false, true, true, true, true, true, true, true, true, true, true, false, false, false, false, false, false, false, false, false, false, false, false, false] (by kernel_rfl) (by kernel_rfl) (planOk_step #[true, true, true, true, true, true, true, true, true, true, true, true, true, true, true, true, true, true, true, true, false, true, true, true, true, true, true, true, true, true, true, true, false, false, false, false, false, false, false, false, false, false, false, false] (by kernel_rfl) (by kernel_rfl) (planOk_step #[true, true, true, true, true, true, true, true, true, true, true, true, true, true, true, true, true, true, true, true, false, true, true, true, true, true, true, true, true, true, true, true, true, false, false, false, false, false, false, false, false, false, false, false] (by kernel_rfl) (by kernel_rfl) (planOk_step #[true, true, true, true, true, true, true, true, true, true, true, true, true, true, true, true, true, true, true, true, false, true, true, true, true, true, true, true, true, true, true, true, true, true, false, false, false, false, false, false, false, false, false, false] (by kernel_rfl) (by kernel_rfl) (planOk_step #[true, true, true, true, true, true, true, true, true, true, true, true, true, true, true, true, true, true, true, true, false, true, true, true, true, true, true, true, true, true, true, true, true, true, true, false, false, false, false, false, false, false, false, false] (by kernel_rfl) (by kernel_rfl) (planOk_step #[true, true, true, true, true, true, true, true, true, true, true, true, true, true, true, true, true, true, true, true, false, true, true, true, true, true, true, true, true, true, true, true, true, true, true, true, false, false, false, false, false, false, false, false] (by kernel_rfl) (by kernel_rfl) (planOk_step #[true, true, true, true, true, true, true, true, true, true, true, true, true, true, true, true, true, true, true, true, false, true, true, true, true, true, true, true, true, true, true, true, true, true, true, true, true, false, false, false, false, false, false, false] (by kernel_rfl) (by kernel_rfl) (planOk_step #[true, true, true, true, true, true, true, true, true, true, true, true, true, true, true, true, true, true, true, true, false, true, true, true, true, true, true, true, true, true, true, true, true, true, true, true, true, true, false, false, false, false, false, false] (by kernel_rfl) (by kernel_rfl) (planOk_step #[true, true, true, true, true, true, true, true, true, true, true, true, true, true, true, true, true, true, true, true, false, true, true, true, true, true, true, true, true, true, true, true, true, true, true, true, true, true, true, false, false, false, false, false] (by kernel_rfl) (by kernel_rfl) (planOk_step #[true, true, true, true, true, true, true, true, true, true, true, true, true, true, true, true, true, true, true, true, false, true, true, true, true, true, true, true, true, true, true, true, true, true, true, true, true, true, true, true, false, false, false, false] (by kernel_rfl) (by kernel_rfl) (planOk_step #[true, true, true, true, true, true, true, true, true, true, true, true, true, true, true, true, true, true, true, true, false, true, true, true, true, true, true, true, true, true, true, true, true, true, true, true, true, true, true, true, true, false, false, false] (by kernel_rfl) (by kernel_rfl) (planOk_step #[true, true, true, true, true, true, true, true, true, true, true, true, true, true, true, true, true, true, true, true, true, true, true, true, true, true, true, true, true, true, true, true, true, true, true, true, true, true, true, true, true, false, false, false] (by kernel_rfl) (by kernel_rfl) (planOk_step #[true, true, true, true, true, true, true, true, true, true, true, true, true, true, true, true, true, true, true, true, true, true, true, true, true, true, true, true, true, true, true, true, true, true, true, true, true, true, true, true, true, true, false, false] (by kernel_rfl) (by kernel_rfl) (planOk_step #[true, true, true, true, true, true, true, true, true, true, true, true, true, true, true, true, true, true, true, true, true, true, true, true, true, true, true, true, true, true, true, true, true, true, true, true, true, true, true, true, true, true, true, false] (by kernel_rfl) (by kernel_rfl) (planOk_step #[true, true, true, true, true, true, true, true, true, true, true, true, true, true, true, true, true, true, true, true, true, true, true, true, true, true, true, true, true, true, true, true, true, true, true, true, true, true, true, true, true, true, true, true] (by kernel_rfl) (by kernel_rfl) (by kernel_rfl))))))))))))))))))))))))))))))))))))))))))))
theorem dispatcherlaw14_play_does_R6_held {D : List Deferred} (S : World → Prop) {K : Exit → Sl → World → Prop} {ρ : Sl} {w : World} (hS : S { w with drawn := w.drawn + 1 }) (h : dispatcherlaw14_play_does_R6_H S K ρ { w with drawn := w.drawn + 1 }) : W ⟨none, D⟩ Try.prog 150 dispatcherlaw14_play_does_R6 K ρ w := by
  have e : dispatcherlaw14_play_does_R6 = .region (idOf dispatcherlaw14_play_does_R6) dispatcherlaw14_play_does_R6_ops true := by kernel_rfl
  have q : sxh Try.prog S dispatcherlaw14_play_does_R6_ops (K .normal) [(0, true), (1, true), (2, true), (3, true), (4, true), (5, true), (6, true), (7, true), (8, true), (9, true), (10, true), (11, true), (12, true), (13, true), (14, true), (15, true), (16, true), (17, true), (18, true), (19, true), (21, true), (22, true), (23, true), (24, true), (25, true), (26, true), (27, true), (28, true), (29, true), (30, true), (31, true), (32, true), (33, true), (34, true), (35, true), (36, true), (37, true), (38, true), (39, true), (40, true), (20, false), (41, false), (42, true), (43, true)] ρ { w with drawn := w.drawn + 1 } = dispatcherlaw14_play_does_R6_H S K ρ { w with drawn := w.drawn + 1 } := by
    show sxh Try.prog S dispatcherlaw14_play_does_R6_ops (K .normal) ([(0, true), (1, true), (2, true), (3, true), (4, true), (5, true), (6, true), (7, true), (8, true), (9, true), (10, true), (11, true)] ++ ([(12, true), (13, true), (14, true), (15, true), (16, true), (17, true), (18, true), (19, true), (21, true), (22, true), (23, true), (24, true)] ++ ([(25, true), (26, true), (27, true), (28, true), (29, true), (30, true), (31, true), (32, true), (33, true), (34, true), (35, true), (36, true)] ++ [(37, true), (38, true), (39, true), (40, true), (20, false), (41, false), (42, true), (43, true)]))) ρ { w with drawn := w.drawn + 1 } = _
    rw [sxh_append, sxh_append, sxh_append, dispatcherlaw14_play_does_R6_q3, dispatcherlaw14_play_does_R6_q2, dispatcherlaw14_play_does_R6_q1, dispatcherlaw14_play_does_R6_q0]; rfl
  rw [e]
  exact W_held S [(0, true), (1, true), (2, true), (3, true), (4, true), (5, true), (6, true), (7, true), (8, true), (9, true), (10, true), (11, true), (12, true), (13, true), (14, true), (15, true), (16, true), (17, true), (18, true), (19, true), (21, true), (22, true), (23, true), (24, true), (25, true), (26, true), (27, true), (28, true), (29, true), (30, true), (31, true), (32, true), (33, true), (34, true), (35, true), (36, true), (37, true), (38, true), (39, true), (40, true), (20, false), (41, false), (42, true), (43, true)] (by kernel_rfl) (by kernel_rfl) dispatcherlaw14_play_does_R6_steps (by kernel_rfl) hS (Eq.mpr q h)
noncomputable def dispatcherlaw14_play_does_R7_F (z : At) (K : Exit → Sl → World → Prop) (ρ : Sl) (w : World) : Prop :=
  K .ret ρ w
theorem dispatcherlaw14_play_does_R7_eq (z : At) (K : Exit → Sl → World → Prop) (ρ : Sl) (w : World) : sx z Try.prog 150 dispatcherlaw14_play_does_R7 K ρ w = dispatcherlaw14_play_does_R7_F z K ρ w := by kernel_rfl
noncomputable def dispatcherlaw14_play_does_R8_ops : Array Oper := opsOf dispatcherlaw14_play_does_R8
def dispatcherlaw14_play_does_R8_T (K : Exit → Sl → World → Prop) (ρ : Sl) (w : World) : Prop :=
  let C : World → Prop := fun w' => w' = w; QK Try.prog C (nilCk (ρ 0)) fun x91_1 => QK Try.prog C (do pure (Next.value (← Instr.fieldAt 69 x91_1 0))) fun x92_1 => QK Try.prog C (do pure (Next.value (← Instr.loadAt 27 x92_1))) fun x93_1 => QK Try.prog C (nilCk (ρ 0)) fun x95_1 => QK Try.prog C (do pure (Next.value (← Instr.fieldAt 69 x95_1 1))) fun x96_1 => QK Try.prog C (do pure (Next.value (← Instr.loadAt 28 x96_1))) fun x97_1 => K Exit.normal (up (up (up (up (up (up (up (up (up (up ρ 90 (ρ 0)) 91 x91_1) 92 x92_1) 93 x93_1) 94 (ρ 0)) 95 x95_1) 96 x96_1) 97 x97_1) 5 x93_1) 6 x97_1) w
theorem dispatcherlaw14_play_does_R8_tail {D : List Deferred} {K : Exit → Sl → World → Prop} {ρ : Sl} {w : World} (h : dispatcherlaw14_play_does_R8_T K ρ { w with drawn := w.drawn + 1 }) : W ⟨none, D⟩ Try.prog 150 dispatcherlaw14_play_does_R8 K ρ w := by
  have e : dispatcherlaw14_play_does_R8 = .region (idOf dispatcherlaw14_play_does_R8) dispatcherlaw14_play_does_R8_ops true := by kernel_rfl
  have q : sxq Try.prog (fun w' => w' = { w with drawn := w.drawn + 1 }) dispatcherlaw14_play_does_R8_ops (fun ρ' => sxL Try.prog dispatcherlaw14_play_does_R8_ops (K .normal) (dispatcherlaw14_play_does_R8_ops.toList.drop 9) ρ' { w with drawn := w.drawn + 1 }) (dispatcherlaw14_play_does_R8_ops.toList.take 9) ρ = dispatcherlaw14_play_does_R8_T K ρ { w with drawn := w.drawn + 1 } := by kernel_rfl
  rw [e]
  exact W_tail 9 (by kernel_rfl) (by kernel_rfl) (by kernel_rfl) (by kernel_rfl) (Eq.mpr q h)
noncomputable def dispatcherlaw14_play_does_R9_F (z : At) (K : Exit → Sl → World → Prop) (ρ : Sl) (w : World) : Prop :=
  CK Try.prog (Value.func (Fn.func 55) #[] #[]) [(ρ 5)] w fun x101 w => CK Try.prog (Value.func (Fn.func 28) #[] #[]) [(ρ 6)] w fun x103 w => NK Try.prog (ρ 0) w fun x104 w => VK Try.prog (Instr.fieldAt 69 x104 0) w fun x105 w => UK Try.prog (Instr.storeAt 27 x105 x101) w fun _ w => NK Try.prog (ρ 0) w fun x106 w => VK Try.prog (Instr.fieldAt 69 x106 1) w fun x107 w => UK Try.prog (Instr.storeAt 28 x107 x103) w fun _ w => W z Try.prog 150 dispatcherlaw14_play_does_R10 (seqK (sx z Try.prog 150 dispatcherlaw14_play_does_R11 K) K) (up (up (up (up (up (up (up (up (up (up ρ 98 (ρ 0)) 99 (ρ 0)) 100 (ρ 5)) 101 x101) 102 (ρ 6)) 103 x103) 104 x104) 105 x105) 106 x106) 107 x107) w
theorem dispatcherlaw14_play_does_R9_eq (z : At) (K : Exit → Sl → World → Prop) (ρ : Sl) (w : World) : sx z Try.prog 150 dispatcherlaw14_play_does_R9 K ρ w = dispatcherlaw14_play_does_R9_F z K ρ w := by kernel_rfl
noncomputable def dispatcherlaw14_play_does_R10_ops : Array Oper := opsOf dispatcherlaw14_play_does_R10
def dispatcherlaw14_play_does_R10_H (S : World → Prop) (K : Exit → Sl → World → Prop) (ρ : Sl) (w : World) : Prop :=
  HK Try.prog S (nilCk (ρ 0)) fun x111 => HK Try.prog S (do pure (Next.value (← Instr.fieldAt 69 x111 2))) fun x112 => HK Try.prog S (nilCk (ρ 0)) fun x116 => HK Try.prog S (do pure (Next.value (← Instr.fieldAt 69 x116 3))) fun x117 => (VK Try.prog (Instr.loadAt 66 x112) w fun x113 w => S w ∧ ((CK Try.prog (Value.func (Fn.func 56) #[] #[]) [x113] w fun x114 w => S w ∧ (VK Try.prog (Instr.loadAt 67 x117) w fun x118 w => S w ∧ (CK Try.prog (Value.func (Fn.func 57) #[] #[]) [x118] w fun x119 w => S w ∧ (HK Try.prog S (nilCk (ρ 0)) fun x120 => HK Try.prog S (do pure (Next.value (← Instr.fieldAt 69 x120 2))) fun x121 => UK Try.prog (Instr.storeAt 66 x121 x114) w fun _ w => S w ∧ (HK Try.prog S (nilCk (ρ 0)) fun x122 => HK Try.prog S (do pure (Next.value (← Instr.fieldAt 69 x122 3))) fun x123 => UK Try.prog (Instr.storeAt 67 x123 x119) w fun _ w => S w ∧ (K Exit.normal (up (up (up (up (up (up (up (up (up (up (up (up (up (up (up (up ρ 108 (ρ 0)) 109 (ρ 0)) 110 (ρ 0)) 111 x111) 112 x112) 115 (ρ 0)) 116 x116) 117 x117) 113 x113) 114 x114) 118 x118) 119 x119) 120 x120) 121 x121) 122 x122) 123 x123) w)))))) ∧ (VK Try.prog (Instr.loadAt 67 x117) w fun x118_1 w => S w ∧ (CK Try.prog (Value.func (Fn.func 56) #[] #[]) [x113] w fun x114_1 w => S w ∧ (CK Try.prog (Value.func (Fn.func 57) #[] #[]) [x118_1] w fun x119_1 w => S w ∧ (HK Try.prog S (nilCk (ρ 0)) fun x120_1 => HK Try.prog S (do pure (Next.value (← Instr.fieldAt 69 x120_1 2))) fun x121_1 => UK Try.prog (Instr.storeAt 66 x121_1 x114_1) w fun _ w => S w ∧ (HK Try.prog S (nilCk (ρ 0)) fun x122_1 => HK Try.prog S (do pure (Next.value (← Instr.fieldAt 69 x122_1 3))) fun x123_1 => UK Try.prog (Instr.storeAt 67 x123_1 x119_1) w fun _ w => S w ∧ (K Exit.normal (up (up (up (up (up (up (up (up (up (up (up (up (up (up (up (up ρ 108 (ρ 0)) 109 (ρ 0)) 110 (ρ 0)) 111 x111) 112 x112) 115 (ρ 0)) 116 x116) 117 x117) 113 x113) 118 x118_1) 114 x114_1) 119 x119_1) 120 x120_1) 121 x121_1) 122 x122_1) 123 x123_1) w)))))))) ∧ (VK Try.prog (Instr.loadAt 67 x117) w fun x118_2 w => S w ∧ (VK Try.prog (Instr.loadAt 66 x112) w fun x113_1 w => S w ∧ (CK Try.prog (Value.func (Fn.func 56) #[] #[]) [x113_1] w fun x114_2 w => S w ∧ (CK Try.prog (Value.func (Fn.func 57) #[] #[]) [x118_2] w fun x119_2 w => S w ∧ (HK Try.prog S (nilCk (ρ 0)) fun x120_2 => HK Try.prog S (do pure (Next.value (← Instr.fieldAt 69 x120_2 2))) fun x121_2 => UK Try.prog (Instr.storeAt 66 x121_2 x114_2) w fun _ w => S w ∧ (HK Try.prog S (nilCk (ρ 0)) fun x122_2 => HK Try.prog S (do pure (Next.value (← Instr.fieldAt 69 x122_2 3))) fun x123_2 => UK Try.prog (Instr.storeAt 67 x123_2 x119_2) w fun _ w => S w ∧ (K Exit.normal (up (up (up (up (up (up (up (up (up (up (up (up (up (up (up (up ρ 108 (ρ 0)) 109 (ρ 0)) 110 (ρ 0)) 111 x111) 112 x112) 115 (ρ 0)) 116 x116) 117 x117) 118 x118_2) 113 x113_1) 114 x114_2) 119 x119_2) 120 x120_2) 121 x121_2) 122 x122_2) 123 x123_2) w)))))))
theorem dispatcherlaw14_play_does_R10_held {D : List Deferred} (S : World → Prop) {K : Exit → Sl → World → Prop} {ρ : Sl} {w : World} (hS : S { w with drawn := w.drawn + 1 }) (h : dispatcherlaw14_play_does_R10_H S K ρ { w with drawn := w.drawn + 1 }) : W ⟨none, D⟩ Try.prog 150 dispatcherlaw14_play_does_R10 K ρ w := by
  have e : dispatcherlaw14_play_does_R10 = .region (idOf dispatcherlaw14_play_does_R10) dispatcherlaw14_play_does_R10_ops true := by kernel_rfl
  have q : sxd Try.prog S dispatcherlaw14_play_does_R10_ops (K .normal) (Pd.take 0 (Pd.take 1 (Pd.take 2 (Pd.take 3 (Pd.take 4 (Pd.take 7 (Pd.take 8 (Pd.take 9 (Pd.two false false 5 10 (Pd.two false false 6 10 (Pd.only false 10 (Pd.only false 11 (Pd.take 12 (Pd.take 13 (Pd.only false 14 (Pd.take 15 (Pd.take 16 (Pd.only false 17 Pd.done)))))))) (Pd.only false 6 (Pd.only false 11 (Pd.take 12 (Pd.take 13 (Pd.only false 14 (Pd.take 15 (Pd.take 16 (Pd.only false 17 Pd.done))))))))) (Pd.only false 5 (Pd.only false 6 (Pd.only false 11 (Pd.take 12 (Pd.take 13 (Pd.only false 14 (Pd.take 15 (Pd.take 16 (Pd.only false 17 Pd.done)))))))))))))))))) ρ { w with drawn := w.drawn + 1 } = dispatcherlaw14_play_does_R10_H S K ρ { w with drawn := w.drawn + 1 } := by kernel_rfl
  rw [e]
  exact W_pland S (Pd.take 0 (Pd.take 1 (Pd.take 2 (Pd.take 3 (Pd.take 4 (Pd.take 7 (Pd.take 8 (Pd.take 9 (Pd.two false false 5 10 (Pd.two false false 6 10 (Pd.only false 10 (Pd.only false 11 (Pd.take 12 (Pd.take 13 (Pd.only false 14 (Pd.take 15 (Pd.take 16 (Pd.only false 17 Pd.done)))))))) (Pd.only false 6 (Pd.only false 11 (Pd.take 12 (Pd.take 13 (Pd.only false 14 (Pd.take 15 (Pd.take 16 (Pd.only false 17 Pd.done))))))))) (Pd.only false 5 (Pd.only false 6 (Pd.only false 11 (Pd.take 12 (Pd.take 13 (Pd.only false 14 (Pd.take 15 (Pd.take 16 (Pd.only false 17 Pd.done)))))))))))))))))) (by kernel_rfl) (by kernel_rfl) (by kernel_rfl) (by kernel_rfl) hS (Eq.mpr q h)
noncomputable def dispatcherlaw14_play_does_R11_F (z : At) (K : Exit → Sl → World → Prop) (ρ : Sl) (w : World) : Prop :=
  VK Try.prog (Instr.fieldAt 48 (ρ 3) 1) w fun x125 w => VK Try.prog (Instr.fieldAt 39 x125 1) w fun x126 w => VK Try.prog (Instr.loadAt 3 x126) w fun x127 w => VK Try.prog (Instr.fieldAt 48 (ρ 3) 1) w fun x128 w => VK Try.prog (Instr.fieldAt 39 x128 3) w fun x129 w => VK Try.prog (Instr.loadAt 3 x129) w fun x130 w => CK Try.prog (Value.func (Fn.func 45) #[] #[]) [(ρ 5), x127, x130] w fun x131 w => VK Try.prog (Instr.fieldAt 48 (ρ 3) 2) w fun x133 w => VK Try.prog (Instr.fieldAt 24 x133 1) w fun x134 w => VK Try.prog (Instr.loadAt 3 x134) w fun x135 w => VK Try.prog (Instr.build 24 [(1, x135), (2, (Value.int .i64 1099511627776)), (3, (Value.int .i64 (-1))), (4, (Value.int .i64 (-1)))].toArray) w fun x136 w => CK Try.prog (Value.func (Fn.func 14) #[] #[]) [(ρ 6), x136] w fun x137 w => NK Try.prog (ρ 0) w fun x139 w => VK Try.prog (Instr.fieldAt 69 x139 0) w fun x140 w => VK Try.prog (Instr.loadAt 27 x140) w fun x141 w => BK Try.prog .neq 27 (.tmp 141) (.const (Value.pointer none)) x141 (Value.pointer none) w fun x142 w => MG Try.prog x142 true (ρ 0) w fun x144 w => NG Try.prog x142 true x144 w fun x145 w => VG Try.prog x142 true (Instr.fieldAt 69 x145 1) w fun x146 w => VG Try.prog x142 true (Instr.loadAt 28 x146) w fun x147 w => BG Try.prog x142 true .neq 28 (.tmp 147) (.const (Value.pointer none)) x147 (Value.pointer none) w fun x148 w => PK Try.prog x142 x148 (Value.bool false) w fun x149 w => K .ret (up (up (up (up (up (up (up (up (up (up (up (up (up (up (up (up (up (up (up (up (up (up (up (up (up (up (up ρ 124 (ρ 5)) 125 x125) 126 x126) 127 x127) 128 x128) 129 x129) 130 x130) 131 x131) 132 (ρ 6)) 133 x133) 134 x134) 135 x135) 136 x136) 137 x137) 138 (ρ 0)) 139 x139) 140 x140) 141 x141) 142 x142) 143 x142) 144 x144) 145 x145) 146 x146) 147 x147) 148 x148) 149 x149) 4 x149) w
theorem dispatcherlaw14_play_does_R11_eq (z : At) (K : Exit → Sl → World → Prop) (ρ : Sl) (w : World) : sx z Try.prog 150 dispatcherlaw14_play_does_R11 K ρ w = dispatcherlaw14_play_does_R11_F z K ρ w := by kernel_rfl
noncomputable def dispatcherlaw14_play_does_F (a0 a1 : Value) (w : World) (R : Value → World → Prop) : Prop :=
  VK Try.prog (Instr.box 48 a1) w fun x3 w => VK Try.prog (Instr.fieldAt 48 x3 0) w fun x7 w => VK Try.prog (Instr.loadAt 5 x7) w fun x8 w => BK Try.prog .rem 5 (.tmp 8) (.const (Value.int .u8 5)) x8 (Value.int .u8 5) w fun x9 w => BK Try.prog .eql 5 (.tmp 9) (.const (Value.int .u8 0)) x9 (Value.int .u8 0) w fun x11 w => CondK x11 (sx fn_ Try.prog 150 dispatcherlaw14_play_does_R0 (blkK 0 (seqK (sx fn_ Try.prog 150 dispatcherlaw14_play_does_R1 (retK Try.prog [ResultVar.tmp 4] R)) (retK Try.prog [ResultVar.tmp 4] R))) (up (up (up (up (up (up (up (rho0 [a0, a1]) 3 x3) 4 (Value.bool false)) 7 x7) 8 x8) 9 x9) 11 x11) 10 x11) w) (BK Try.prog .eql 5 (.tmp 9) (.const (Value.int .u8 1)) x9 (Value.int .u8 1) w fun x12 w => sx fn_ Try.prog 150 dispatcherlaw14_play_does_R0 (blkK 0 (seqK (sx fn_ Try.prog 150 dispatcherlaw14_play_does_R1 (retK Try.prog [ResultVar.tmp 4] R)) (retK Try.prog [ResultVar.tmp 4] R))) (up (up (up (up (up (up (up (up (up (rho0 [a0, a1]) 3 x3) 4 (Value.bool false)) 7 x7) 8 x8) 9 x9) 11 x11) 10 x11) 12 x12) 10 x12) w)
theorem dispatcherlaw14_play_does_eq (a0 a1 : Value) (w : World) (R : Value → World → Prop) : sx fn_ Try.prog 150 dispatcherlaw14_play_does_b (retK Try.prog Try.f30.results.toList R) (rho0 [a0, a1]) w = dispatcherlaw14_play_does_F a0 a1 w R := by kernel_rfl
theorem dispatcherlaw14_play_does_calls {a0 a1 : Value} {w : World} {R : Value → World → Prop} (h : dispatcherlaw14_play_does_F a0 a1 w R) : Calls Try.prog 30 #[a0, a1] w fun e w' => ∃ v, e = .returned v ∧ R v w' :=
  Go.X.calls_of_sx (n := 150) (c := dispatcherlaw14_play_does_b) Try.func30 (by kernel_rfl) (by kernel_rfl) (Nat.le_of_ble_eq_true rfl) (by kernel_rfl) (Eq.mpr (dispatcherlaw14_play_does_eq a0 a1 w R) h)
end Go.Proofs.Ytmnkedgmpbcicaa.XI
set_option linter.unusedVariables false
set_option linter.unusedSimpArgs false
set_option maxRecDepth 8000
namespace Go.Proofs.Ytmnkedgmpbcicaa.Que
open Go Go.X Go.RowKit Go.Proofs.Ytmnkedgmpbcicaa.XF Go.Proofs.Ytmnkedgmpbcicaa.XG Go.Proofs.Ytmnkedgmpbcicaa.XK
section
variable {w0 w w1 : World} {x b3 n : Nat} {s : PlS} {a : Bc}
theorem PlB.onM (h : PlB w0 w x s) {l1 : List Ms} {A1 : List Rc} (h1 : DAt w1 s.k l1 s.D) (h2 : EAt w1 s.d A1 s.v) (hm : Mod (fun b => DF s.k s.D b ∨ sb s.v b) w w1) : PlB w0 w1 x { s with ld := l1, A := A1 } := by
  refine ⟨hm.blk h.blk fun z => ?_, h.pp.move hm fun b z => ?_, h1, h2, h.aQ, h.aD, h.aE, h.fd, h.fe, h.fx⟩
  · rcases z with z | z
    · exact (h.aD _ z).2 rfl
    · exact h.aE _ (.inr z) rfl
  · rcases z with z | z
    · exact ⟨fun y => (h.aQ b (.inl y)).1 z, fun y => (h.aQ b (.inr y)).1 z, h.fd b z⟩
    · exact ⟨fun y => (h.aQ b (.inl y)).2.1 (.inr z), fun y => (h.aQ b (.inr y)).2.1 (.inr z), h.fe b (.inr z)⟩
theorem does_R6 {K : Exit → Sl → World → Prop} {ρ : Sl} (h : PlAt w0 w x s n) (hn : n ≤ 400) (hb : w.heap[b3]? = some (.cells a.enc.toArray tBc (0, 0))) (nb : ¬ s.all x b3) (e0 : ρ 0 = .pointer (some ⟨x, 0, none⟩)) (e3 : ρ 3 = .pointer (some ⟨b3, 0, none⟩))
    (hk : ∀ (ρ' : Sl) (w' : World) (s' : PlS), ρ' 4 = .bool true → PlAt w0 w' x s' (n + 1) → K .normal ρ' w') : W fn_ Try.prog 150 dispatcherlaw14_play_does_R6 K ρ w := by
  have hmd : Mod none_ w { w with drawn := w.drawn + 1 } := (Mod.refl _ w).drawn _
  have hd := h.calm hmd
  have hbd := hmd.blk hb id
  show W fn_ Try.prog 150 XI.dispatcherlaw14_play_does_R6 K ρ w
  refine XI.dispatcherlaw14_play_does_R6_held (D := []) (fun w' => w'.heap[x]? = some (.cells s.cs tPl (0, 0)) ∧ w'.heap[b3]? = some (.cells a.enc.toArray tBc (0, 0))) ⟨hd.b.blk, hbd⟩ ?_
  generalize ({ w with drawn := w.drawn + 1 } : World) = wd at *
  unfold XI.dispatcherlaw14_play_does_R6_H XI.dispatcherlaw14_play_does_R6_H0
  rw [e0, e3]
  have rr : ∀ w : World, (Instr.fieldAt tRc (.pointer (some ⟨b3, 9, none⟩)) 1).run Try.prog w = .ok (.pointer (some ⟨b3, 10, none⟩)) w := fun w => fld (c := 10) (show fieldOff Try.prog tRc 1 = some 1 by kernel_rfl) rfl w
  have rc : ∀ w : World, (Instr.fieldAt tRc (.pointer (some ⟨b3, 9, none⟩)) 2).run Try.prog w = .ok (.pointer (some ⟨b3, 11, none⟩)) w := fun w => fld (c := 11) (show fieldOff Try.prog tRc 2 = some 2 by kernel_rfl) rfl w
  have mf : ∀ w : World, (Instr.fieldAt tMs (.pointer (some ⟨b3, 1, none⟩)) 1).run Try.prog w = .ok (.pointer (some ⟨b3, 2, none⟩)) w := fun w => fld (c := 2) (show fieldOff Try.prog tMs 1 = some 1 by kernel_rfl) rfl w
  have mc : ∀ w : World, (Instr.fieldAt tMs (.pointer (some ⟨b3, 1, none⟩)) 3).run Try.prog w = .ok (.pointer (some ⟨b3, 4, none⟩)) w := fun w => fld (c := 4) (show fieldOff Try.prog tMs 3 = some 3 by kernel_rfl) rfl w
  have b1 : ∀ w : World, (Instr.fieldAt tBc (.pointer (some ⟨b3, 0, none⟩)) 1).run Try.prog w = .ok (.pointer (some ⟨b3, 1, none⟩)) w := fun w => fld (c := 1) (show fieldOff Try.prog tBc 1 = some 1 by kernel_rfl) rfl w
  have b9 : ∀ w : World, (Instr.fieldAt tBc (.pointer (some ⟨b3, 0, none⟩)) 2).run Try.prog w = .ok (.pointer (some ⟨b3, 9, none⟩)) w := fun w => fld (c := 9) (show fieldOff Try.prog tBc 2 = some 9 by kernel_rfl) rfl w
  refine HN_ptr ?_
  refine HV_of (fun w _ => fld (c := 1) (show fieldOff Try.prog tPl 1 = some 1 by kernel_rfl) rfl w) ?_
  refine HV_of (fun w hw => run_ld1 uPd rfl (pl_c hw.1 (k := 1) rfl)) ?_
  refine HN_ptr ?_
  refine HV_of (fun w _ => fld (c := 0) (show fieldOff Try.prog tPl 0 = some 0 by kernel_rfl) rfl w) ?_
  refine HV_of (fun w hw => run_ld1 uQ rfl (pl_c hw.1 (k := 0) rfl)) ?_
  refine HV_of (fun w _ => b9 w) ?_
  refine HV_of (fun w _ => rr w) ?_
  refine HV_of (fun w hw => act_i hw.2 (n := a.r.rank) rfl) ?_
  refine HV_of (fun w _ => b9 w) ?_
  have key1 : ∀ ρ2 : Sl, ρ2 58 = .pointer (some ⟨b3, 9, none⟩) → ρ2 0 = .pointer (some ⟨x, 0, none⟩) → ρ2 3 = .pointer (some ⟨b3, 0, none⟩) → ρ2 50 = .pointer (some ⟨s.p, 0, none⟩) → ρ2 54 = .pointer (some ⟨s.q, 0, none⟩) → ρ2 57 = .int .i64 a.r.rank → XI.dispatcherlaw14_play_does_R6_H1 (fun w' => w'.heap[x]? = some (.cells s.cs tPl (0, 0)) ∧ w'.heap[b3]? = some (.cells a.enc.toArray tBc (0, 0))) (XI.dispatcherlaw14_play_does_R6_H2 (fun w' => w'.heap[x]? = some (.cells s.cs tPl (0, 0)) ∧ w'.heap[b3]? = some (.cells a.enc.toArray tBc (0, 0))) (XI.dispatcherlaw14_play_does_R6_H3 (fun w' => w'.heap[x]? = some (.cells s.cs tPl (0, 0)) ∧ w'.heap[b3]? = some (.cells a.enc.toArray tBc (0, 0))) (K .normal))) ρ2 wd := by
    intro ρ2 t58 t0 t3 t50 t54 t57
    unfold XI.dispatcherlaw14_play_does_R6_H1
    rw [t58, t0, t3]
    refine HV_of (fun w _ => rc w) ?_
    refine HV_of (fun w hw => act_i hw.2 (n := a.r.call) rfl) ?_
    refine HV_of (fun w _ => b1 w) ?_
    refine HV_of (fun w _ => mf w) ?_
    refine HV_of (fun w hw => act_i hw.2 (n := a.m.frm) rfl) ?_
    refine HV_of (fun w _ => b1 w) ?_
    refine HV_of (fun w _ => mc w) ?_
    refine HV_of (fun w hw => act_i hw.2 (n := a.m.call) rfl) ?_
    refine HN_ptr ?_
    refine HV_of (fun w _ => fld (c := 3) (show fieldOff Try.prog tPl 3 = some 3 by kernel_rfl) rfl w) ?_
    refine HV_of (fun w hw => run_ld1 uPE rfl (pl_c hw.1 (k := 3) rfl)) ?_
    have key2 : ∀ ρ3 : Sl, ρ3 0 = .pointer (some ⟨x, 0, none⟩) → ρ3 3 = .pointer (some ⟨b3, 0, none⟩) → ρ3 50 = .pointer (some ⟨s.p, 0, none⟩) → ρ3 54 = .pointer (some ⟨s.q, 0, none⟩) → ρ3 57 = .int .i64 a.r.rank → ρ3 60 = .int .i64 a.r.call → ρ3 63 = .int .i64 a.m.frm → ρ3 66 = .int .i64 a.m.call → ρ3 71 = .pointer (some ⟨s.d, 0, none⟩) → XI.dispatcherlaw14_play_does_R6_H2 (fun w' => w'.heap[x]? = some (.cells s.cs tPl (0, 0)) ∧ w'.heap[b3]? = some (.cells a.enc.toArray tBc (0, 0))) (XI.dispatcherlaw14_play_does_R6_H3 (fun w' => w'.heap[x]? = some (.cells s.cs tPl (0, 0)) ∧ w'.heap[b3]? = some (.cells a.enc.toArray tBc (0, 0))) (K .normal)) ρ3 wd := by
      intro ρ3 u0 u3 u50 u54 u57 u60 u63 u66 u71
      unfold XI.dispatcherlaw14_play_does_R6_H2
      rw [u0, u3]
      refine HN_ptr ?_
      refine HV_of (fun w _ => fld (c := 2) (show fieldOff Try.prog tPl 2 = some 2 by kernel_rfl) rfl w) ?_
      refine HV_of (fun w hw => run_ld1 uPW rfl (pl_c hw.1 (k := 2) rfl)) ?_
      refine HV_of (fun w _ => b9 w) ?_
      refine HV_of (fun w _ => rr w) ?_
      refine HV_of (fun w hw => act_i hw.2 (n := a.r.rank) rfl) ?_
      refine HV_of (fun w _ => b9 w) ?_
      refine HV_of (fun w _ => rc w) ?_
      refine HV_of (fun w hw => act_i hw.2 (n := a.r.call) rfl) ?_
      refine HV_of (fun w _ => b1 w) ?_
      refine HV_of (fun w _ => mf w) ?_
      have key3 : ∀ ρ4 : Sl, ρ4 3 = .pointer (some ⟨b3, 0, none⟩) → ρ4 50 = .pointer (some ⟨s.p, 0, none⟩) → ρ4 54 = .pointer (some ⟨s.q, 0, none⟩) → ρ4 57 = .int .i64 a.r.rank → ρ4 60 = .int .i64 a.r.call → ρ4 63 = .int .i64 a.m.frm → ρ4 66 = .int .i64 a.m.call → ρ4 71 = .pointer (some ⟨s.d, 0, none⟩) → ρ4 75 = .pointer (some ⟨s.k, 0, none⟩) → ρ4 78 = .int .i64 a.r.rank → ρ4 81 = .int .i64 a.r.call → ρ4 83 = .pointer (some ⟨b3, 2, none⟩) → XI.dispatcherlaw14_play_does_R6_H3 (fun w' => w'.heap[x]? = some (.cells s.cs tPl (0, 0)) ∧ w'.heap[b3]? = some (.cells a.enc.toArray tBc (0, 0))) (K .normal) ρ4 wd := by
        intro ρ4 v3 v50 v54 v57 v60 v63 v66 v71 v75 v78 v81 v83
        unfold XI.dispatcherlaw14_play_does_R6_H3
        rw [v83, v3, v50, v54, v57, v60, v63, v66, v71, v75, v78, v81]
        refine HV_of (fun w hw => act_i hw.2 (n := a.m.frm) rfl) ?_
        refine HV_of (fun w _ => b1 w) ?_
        refine HV_of (fun w _ => mc w) ?_
        refine HV_of (fun w hw => act_i hw.2 (n := a.m.call) rfl) ?_
        have hl := h.hl
        have hA := h.hA
        refine CK_st Try.func17 rfl rfl (Match_ok hd.b.pp (fun i => by have := h.hR i; omega) h.ok.frm (by omega) a.r.rank a.r.call a.m.frm a.m.call) ?_
        rintro _ w1 ⟨rfl, h1, hm1⟩
        have hB1 := hd.b.onP h1 (MFr.m hm1)
        have hb1 := hm1.blk hbd fun z => nb (.inl z)
        refine ⟨⟨hB1.blk, hb1⟩, ?_⟩
        have hq1 : DAt w1 s.k s.ls s.D := by
          have := hB1.dq
          rw [show ({ s with ls := (matchV s.R s.ls a.r.rank a.r.call a.m.frm a.m.call).1.2, V := s.V, R := (matchV s.R s.ls a.r.rank a.r.call a.m.frm a.m.call).1.1, vs := s.vs } : PlS).ld = s.ls from h.e] at this
          exact this
        have hE1 : EAt w1 s.d s.A s.v := hB1.ed
        refine CK_st Try.func54 rfl rfl (RMatch_ok hE1 (by omega) hq1 (by omega) (stab_ex ltM_wo _) h.uniq (fun b z y => (hd.b.aD b y).1 z) a.r.rank a.r.call a.m.frm a.m.call) ?_
        rintro _ w2 ⟨S, hS, rfl, hE2, hq2, hm2⟩
        have hB2 := hB1.onM hq2 hE2 hm2
        refine ⟨⟨hB2.blk, hm2.blk hb1 fun z => ?_⟩, ?_⟩
        · rcases z with z | z
          · exact nb (.inr (.inl z))
          · exact nb (.inr (.inr (.inl (.inr z))))
        obtain ⟨c1, c2, c3⟩ := rel_match h.rel h.ok h.uniq hS (left_uniq h.uniq hS) a.r.rank a.r.call a.m.frm a.m.call
        rw [c1]
        refine HB_of (v := .bool true) (fun _ => rfl) (fun w => by simp [go_sem]) ?_
        refine hk _ w2 _ rfl ⟨hB2, c2, c3, h.ok.step (.mtch ..), fun i => ?_, ?_, ?_⟩
        · show ((matchV s.R s.ls a.r.rank a.r.call a.m.frm a.m.call).1.1 i).length ≤ n + 1
          rw [match_len]; exact Nat.le_succ_of_le (h.hR i)
        · show ((matchV s.R s.ls a.r.rank a.r.call a.m.frm a.m.call).1.2).length ≤ n + 1
          rw [match_ml]; omega
        · show (matchA s.A s.ls S a.r.rank a.r.call a.m.frm a.m.call).1.1.length ≤ n + 1
          unfold matchA
          split
          · show (s.A.map _).length ≤ n + 1
            rw [List.length_map]; omega
          · show s.A.length ≤ n + 1
            omega
      exact key3 _ (by first | exact u3 | rfl) (by first | exact u50 | rfl) (by first | exact u54 | rfl) (by first | exact u57 | rfl) (by first | exact u60 | rfl) (by first | exact u63 | rfl) (by first | exact u66 | rfl) (by first | exact u71 | rfl) rfl rfl rfl rfl
    exact key2 _ (by first | exact t0 | rfl) (by first | exact t3 | rfl) (by first | exact t50 | rfl) (by first | exact t54 | rfl) (by first | exact t57 | rfl) rfl rfl rfl rfl
  exact key1 _ rfl (by first | exact e0 | rfl) (by first | exact e3 | rfl) rfl rfl rfl
end
end Go.Proofs.Ytmnkedgmpbcicaa.Que
set_option linter.unusedVariables false
set_option linter.unusedSimpArgs false
set_option maxRecDepth 8000
namespace Go.Proofs.Ytmnkedgmpbcicaa.Que
open Go Go.X Go.RowKit Go.Proofs.Ytmnkedgmpbcicaa.XF Go.Proofs.Ytmnkedgmpbcicaa.XG Go.Proofs.Ytmnkedgmpbcicaa.XK
theorem PlB.move {S : Nat → Prop} {w0 w w1 : World} {x : Nat} {s : PlS} (h : PlB w0 w x s) (hm : Mod S w w1) (hS : ∀ b, S b → ¬ s.all x b ∧ w0.heap.size ≤ b) : PlB w0 w1 x s :=
  ⟨hm.blk h.blk fun z => (hS _ z).1 (.inr (.inr (.inr rfl))), h.pp.move hm fun b z => ⟨fun y => (hS b z).1 (.inl (.inl y)), fun y => (hS b z).1 (.inl (.inr y)), (hS b z).2⟩, h.dq.mod hm fun b z y => (hS b y).1 (.inr (.inl z)), h.ed.mod hm fun b z y => (hS b y).1 (.inr (.inr (.inl z))), h.aQ, h.aD, h.aE, h.fd, h.fe, h.fx⟩
def oldR (rk : Int) : Rc := ⟨[], rk, 1099511627776, -1, -1, 0, false, 0, 0⟩
section
variable {w0 w : World} {x b3 n : Nat} {s s' : PlS} {a : Bc}
theorem does_R11 {K : Exit → Sl → World → Prop} {ρ : Sl} (h : PlB w0 w x s') (ho : PP w0 w s.q s.p s.ls s.V s.R s.vs) (hap : ∀ b, s.F b → ¬ s'.all x b) (hlen : ∀ i, (s.R i).length ≤ 1000000) (hl : s.ls.length ≤ 500000) (hb : w.heap[b3]? = some (.cells a.enc.toArray tBc (0, 0))) (nb : ¬ s.F b3) (e0 : ρ 0 = .pointer (some ⟨x, 0, none⟩)) (e3 : ρ 3 = .pointer (some ⟨b3, 0, none⟩)) (e5 : ρ 5 = .pointer (some ⟨s.q, 0, none⟩)) (e6 : ρ 6 = .pointer (some ⟨s.p, 0, none⟩))
    (hk : ∀ (ρ' : Sl) (w' : World), ρ' 4 = .bool true → PlB w0 w' x s' → K .ret ρ' w') : sx fn_ Try.prog 150 dispatcherlaw14_play_does_R11 K ρ w := by
  rw [dispatcherlaw14_play_does_R11_eq]; unfold dispatcherlaw14_play_does_R11_F
  rw [e0, e3, e5, e6]
  have b1 : ∀ w : World, (Instr.fieldAt tBc (.pointer (some ⟨b3, 0, none⟩)) 1).run Try.prog w = .ok (.pointer (some ⟨b3, 1, none⟩)) w := fun w => fld (c := 1) (show fieldOff Try.prog tBc 1 = some 1 by kernel_rfl) rfl w
  have b9 : ∀ w : World, (Instr.fieldAt tBc (.pointer (some ⟨b3, 0, none⟩)) 2).run Try.prog w = .ok (.pointer (some ⟨b3, 9, none⟩)) w := fun w => fld (c := 9) (show fieldOff Try.prog tBc 2 = some 9 by kernel_rfl) rfl w
  rw [VK_eq_of (b1 w), VK_eq_of (fld (c := 2) (show fieldOff Try.prog tMs 1 = some 1 by kernel_rfl) rfl w), VK_eq_of (act_i hb (n := a.m.frm) rfl), VK_eq_of (b1 w), VK_eq_of (fld (c := 4) (show fieldOff Try.prog tMs 3 = some 3 by kernel_rfl) rfl w), VK_eq_of (act_i hb (n := a.m.call) rfl)]
  refine CK_st Try.func45 rfl rfl (Take_ok ho.qa (by omega) a.m.frm a.m.call) ?_
  rintro _ w1 ⟨_, h1, f1⟩
  have ho1 := ho.onQ h1 f1
  have hP1 := h.move f1.mod fun b z => ⟨hap b (.inl z), ho.fq b z⟩
  have hb1 := f1.mod.blk hb fun z => nb (.inl z)
  rw [VK_eq_of (b9 w1), VK_eq_of (fld (c := 10) (show fieldOff Try.prog tRc 1 = some 1 by kernel_rfl) rfl w1), VK_eq_of (act_i hb1 (n := a.r.rank) rfl), build_ok (cs := (oldR a.r.rank).enc.toArray) (by kernel_rfl)]
  refine CK_st Try.func14 rfl rfl (Post_ok ho1.pa hlen (oldR a.r.rank)) ?_
  rintro _ w2 ⟨_, vs2, h2, f2⟩
  have hP2 := hP1.move f2.mod fun b z => ⟨hap b (.inr z), ho1.fp b z⟩
  rw [NK_ptr, VK_eq_of (fld (c := 0) (show fieldOff Try.prog tPl 0 = some 0 by kernel_rfl) rfl w2), VK_eq_of (run_ld1 uQ rfl (pl_c hP2.blk (k := 0) (u := .pointer (some ⟨s'.q, 0, none⟩)) rfl)), BK_neqP uQ]
  simp only [Option.isNone_some, Bool.not_false, ↓VG_u, ↓UG_u, ↓MG_u, ↓NG_u, ↓PG_u, ↓BG_u, ↓CG_u, ↓IG_u, ↓VGtt, ↓VGtf, ↓VGft, ↓VGff, ↓UGtt, ↓UGtf, ↓UGft, ↓UGff, ↓MGtt, ↓MGtf, ↓MGft, ↓MGff, ↓NGtt, ↓NGtf, ↓NGft, ↓NGff, ↓PGtt, ↓PGtf, ↓PGft, ↓PGff, ↓BGtt, ↓BGtf, ↓BGft, ↓BGff, ↓CGtt, ↓CGtf, ↓CGft, ↓CGff, ↓IGtt, ↓IGtf, ↓IGft, ↓IGff, ↓PKt, ↓PKf, ↓CDt, ↓CDf, ↓NOTt, ↓NOTf, ↓NK_ptr]
  rw [VK_eq_of (fld (c := 1) (show fieldOff Try.prog tPl 1 = some 1 by kernel_rfl) rfl w2)]
  try simp only [↓VG_u, ↓UG_u, ↓MG_u, ↓NG_u, ↓PG_u, ↓BG_u, ↓CG_u, ↓IG_u, ↓VGtt, ↓VGtf, ↓VGft, ↓VGff, ↓UGtt, ↓UGtf, ↓UGft, ↓UGff, ↓MGtt, ↓MGtf, ↓MGft, ↓MGff, ↓NGtt, ↓NGtf, ↓NGft, ↓NGff, ↓PGtt, ↓PGtf, ↓PGft, ↓PGff, ↓BGtt, ↓BGtf, ↓BGft, ↓BGff, ↓CGtt, ↓CGtf, ↓CGft, ↓CGff, ↓IGtt, ↓IGtf, ↓IGft, ↓IGff, ↓PKt, ↓PKf, ↓CDt, ↓CDf, ↓NOTt, ↓NOTf, ↓NK_ptr]
  rw [VK_eq_of (run_ld1 uPd rfl (pl_c hP2.blk (k := 1) (u := .pointer (some ⟨s'.p, 0, none⟩)) rfl))]
  try simp only [↓VG_u, ↓UG_u, ↓MG_u, ↓NG_u, ↓PG_u, ↓BG_u, ↓CG_u, ↓IG_u, ↓VGtt, ↓VGtf, ↓VGft, ↓VGff, ↓UGtt, ↓UGtf, ↓UGft, ↓UGff, ↓MGtt, ↓MGtf, ↓MGft, ↓MGff, ↓NGtt, ↓NGtf, ↓NGft, ↓NGff, ↓PGtt, ↓PGtf, ↓PGft, ↓PGff, ↓BGtt, ↓BGtf, ↓BGft, ↓BGff, ↓CGtt, ↓CGtf, ↓CGft, ↓CGff, ↓IGtt, ↓IGtf, ↓IGft, ↓IGff, ↓PKt, ↓PKf, ↓CDt, ↓CDf, ↓NOTt, ↓NOTf, ↓NK_ptr]
  rw [BK_neqP uPd]
  simp only [Option.isNone_some, Bool.not_false, ↓VG_u, ↓UG_u, ↓MG_u, ↓NG_u, ↓PG_u, ↓BG_u, ↓CG_u, ↓IG_u, ↓VGtt, ↓VGtf, ↓VGft, ↓VGff, ↓UGtt, ↓UGtf, ↓UGft, ↓UGff, ↓MGtt, ↓MGtf, ↓MGft, ↓MGff, ↓NGtt, ↓NGtf, ↓NGft, ↓NGff, ↓PGtt, ↓PGtf, ↓PGft, ↓PGff, ↓BGtt, ↓BGtf, ↓BGft, ↓BGff, ↓CGtt, ↓CGtf, ↓CGft, ↓CGff, ↓IGtt, ↓IGtf, ↓IGft, ↓IGff, ↓PKt, ↓PKf, ↓CDt, ↓CDf, ↓NOTt, ↓NOTf, ↓NK_ptr]
  exact hk _ w2 rfl hP2
theorem does_R9 {K : Exit → Sl → World → Prop} {ρ : Sl} (h : PlAt w0 w x s n) (hn : n ≤ 400) (hb : w.heap[b3]? = some (.cells a.enc.toArray tBc (0, 0))) (nb : ¬ s.all x b3) (e0 : ρ 0 = .pointer (some ⟨x, 0, none⟩)) (e3 : ρ 3 = .pointer (some ⟨b3, 0, none⟩)) (e5 : ρ 5 = .pointer (some ⟨s.q, 0, none⟩)) (e6 : ρ 6 = .pointer (some ⟨s.p, 0, none⟩))
    (hk : ∀ (ρ' : Sl) (w' : World) (s' : PlS), ρ' 4 = .bool true → PlAt w0 w' x s' n → K .ret ρ' w') : sx fn_ Try.prog 150 dispatcherlaw14_play_does_R9 K ρ w := by
  rw [dispatcherlaw14_play_does_R9_eq]; unfold dispatcherlaw14_play_does_R9_F
  rw [e0, e5, e6]
  have hl := h.hl
  have hA := h.hA
  have hR : ∀ i, (s.R i).length ≤ 1000000 := fun i => by have := h.hR i; omega
  have hs0 := h.b.pp.mod.size
  have hxl := h.b.xl
  have hxw := h.b.fx
  have hbl := X.blk_lt hb
  refine CK_st Try.func55 rfl rfl (Copy_ok h.b.pp.qa (by omega)) ?_
  rintro _ w1 ⟨q1, V1, rfl, h1, hF1, hm1⟩
  have z1 := hm1.size
  refine CK_st Try.func28 rfl rfl (PCopy_ok (h.b.pp.pa.calm hm1) hR) ?_
  rintro _ w2 ⟨p1, vs1, rfl, h2, hF2, hm2⟩
  have z2 := hm2.size
  have hm02 := hm1.trans hm2
  have hx2 := hm02.blk h.b.blk id
  rw [NK_ptr, VK_eq_of (fld (c := 0) (show fieldOff Try.prog tPl 0 = some 0 by kernel_rfl) rfl w2)]
  refine stC rfl (by kernel_rfl) rfl hx2 (by simp [PlS.cs]) fun w3 hx3 hm3 hz3 => ?_
  rw [NK_ptr, VK_eq_of (fld (c := 1) (show fieldOff Try.prog tPl 1 = some 1 by kernel_rfl) rfl w3)]
  refine stC rfl (by kernel_rfl) rfl hx3 (by simp [PlS.cs]) fun w4 hx4 hm4 hz4 => ?_
  have key : ∀ ρ1 : Sl, ρ1 0 = .pointer (some ⟨x, 0, none⟩) → ρ1 3 = .pointer (some ⟨b3, 0, none⟩) → ρ1 5 = .pointer (some ⟨s.q, 0, none⟩) → ρ1 6 = .pointer (some ⟨s.p, 0, none⟩) → W fn_ Try.prog 150 dispatcherlaw14_play_does_R10 (seqK (sx fn_ Try.prog 150 dispatcherlaw14_play_does_R11 K) K) ρ1 w4 := by
    intro ρ1 t0 t3 t5 t6
    have hmd : Mod none_ w4 { w4 with drawn := w4.drawn + 1 } := (Mod.refl _ w4).drawn _
    refine dispatcherlaw14_play_does_R10_held (D := []) (fun _ => True) trivial ?_
    have hx5 := hmd.blk hx4 id
    have zd : ({ w4 with drawn := w4.drawn + 1 } : World).heap.size = w4.heap.size := rfl
    generalize ({ w4 with drawn := w4.drawn + 1 } : World) = w5 at *
    have hm25 : Mod (fun b => b = x) w2 w5 := (hm3.trans hm4).trans (hmd.mono fun b _ z => z.elim)
    have hm05 : Mod (fun b => b = x) w w5 := (hm02.mono fun b _ z => z.elim).trans hm25
    have hdq5 := h.dq.mod hm05 fun b z y => (h.b.aD b z).2 y
    have hed5 := h.b.ed.mod hm05 fun b z y => (h.b.aE b z) y
    have hc2 : ∀ w' : World, Mod none_ w5 w' → w'.cell? ⟨x, 2, none⟩ = some (.pointer (some ⟨s.k, 0, none⟩)) := fun w' hm => by
      rw [cell_blk (hm.blk hx5 id)]; rfl
    have hc3 : ∀ w' : World, Mod none_ w5 w' → w'.cell? ⟨x, 3, none⟩ = some (.pointer (some ⟨s.d, 0, none⟩)) := fun w' hm => by
      rw [cell_blk (hm.blk hx5 id)]; rfl
    unfold dispatcherlaw14_play_does_R10_H
    rw [t0]
    have f2 : ∀ w : World, (Instr.fieldAt tPl (.pointer (some ⟨x, 0, none⟩)) 2).run Try.prog w = .ok (.pointer (some ⟨x, 2, none⟩)) w := fun w => fld (c := 2) (show fieldOff Try.prog tPl 2 = some 2 by kernel_rfl) rfl w
    have f3 : ∀ w : World, (Instr.fieldAt tPl (.pointer (some ⟨x, 0, none⟩)) 3).run Try.prog w = .ok (.pointer (some ⟨x, 3, none⟩)) w := fun w => fld (c := 3) (show fieldOff Try.prog tPl 3 = some 3 by kernel_rfl) rfl w
    refine HN_ptr ?_
    refine HV_of (fun w _ => f2 w) ?_
    refine HN_ptr ?_
    refine HV_of (fun w _ => f3 w) ?_
    -- what stands behind the document's second copy
    have fin : ∀ (w6 w7 : World) (k1 d1 : Nat) (D1 v1 : Value) (K2 : Value → Value → Value → Value → World → Prop), Mod none_ w5 w6 → DAt w6 k1 s.ls D1 → (∀ b, DF k1 D1 b → w5.heap.size ≤ b) → Mod none_ w6 w7 → EAt w7 d1 s.A v1 → (∀ b, EF d1 v1 b → w6.heap.size ≤ b) →
        (∀ (a1 a2 a3 a4 : Value) (w9 : World) (s' : PlS), PlAt w0 w9 x s' n → PP w0 w9 s.q s.p s.ls s.V s.R s.vs → (∀ b, s.F b → ¬ s'.all x b) → w9.heap[b3]? = some (.cells a.enc.toArray tBc (0, 0)) → K2 a1 a2 a3 a4 w9) →
        HK Try.prog (fun _ => True) (nilCk (.pointer (some ⟨x, 0, none⟩))) fun x120 => HK Try.prog (fun _ => True) (do pure (Next.value (← Instr.fieldAt tPl x120 2))) fun x121 => UK Try.prog (Instr.storeAt 66 x121 (.pointer (some ⟨k1, 0, none⟩))) w7 fun _ w => True ∧ (HK Try.prog (fun _ => True) (nilCk (.pointer (some ⟨x, 0, none⟩))) fun x122 => HK Try.prog (fun _ => True) (do pure (Next.value (← Instr.fieldAt tPl x122 3))) fun x123 => UK Try.prog (Instr.storeAt 67 x123 (.pointer (some ⟨d1, 0, none⟩))) w fun _ w => True ∧ (K2 x120 x121 x122 x123 w)) := by
      intro w6 w7 k1 d1 D1 v1 K2 hm6 hq6 hqf hm7 he7 hef hK
      have hx7 := hm7.blk (hm6.blk hx5 id) id
      refine HN_ptr ?_
      refine HV_of (fun w _ => f2 w) ?_
      refine stC rfl (by kernel_rfl) rfl hx7 (by simp [PlS.cs]) fun w8 hx8 hm8 hz8 => ⟨trivial, ?_⟩
      refine HN_ptr ?_
      refine HV_of (fun w _ => f3 w) ?_
      refine stC rfl (by kernel_rfl) rfl hx8 (by simp [PlS.cs]) fun w9 hx9 hm9 hz9 => ⟨trivial, ?_⟩
      have y6 := hm6.size
      have y7 := hm7.size
      have y5 := hm25.size
      have hm79 : Mod (fun b => b = x) w7 w9 := hm8.trans hm9
      have hm69 : Mod (fun b => b = x) w6 w9 := (hm7.mono fun b _ z => z.elim).trans hm79
      have hm59 : Mod (fun b => b = x) w5 w9 := (hm6.mono fun b _ z => z.elim).trans hm69
      have hm29 := hm25.trans hm59
      have hm19 : Mod (fun b => b = x) w1 w9 := (hm2.mono fun b _ z => z.elim).trans hm29
      have hm09 : Mod (fun b => b = x) w w9 := (hm1.mono fun b _ z => z.elim).trans hm19
      have o1 : ∀ b, V1.F q1 b → b < w1.heap.size := h1.old
      have o2 : ∀ b, PF p1 vs1 b → b < w2.heap.size := h2.old
      have o6 : ∀ b, DF k1 D1 b → b < w6.heap.size := hq6.old
      have hPn : PlB w0 w9 x ⟨q1, p1, k1, d1, s.ls, V1, s.R, vs1, s.ls, D1, s.A, v1⟩ := by
        refine ⟨hx9, ⟨h1.mod hm19 fun b z y => ?_, h2.mod hm29 fun b z y => ?_, fun b z y => ?_, fun b z => ?_, fun b z => ?_, h.b.pp.mod.then hm09 fun i hi z => ?_⟩, hq6.mod hm69 fun b z y => ?_, he7.mod hm79 fun b z y => ?_, fun b z => ⟨fun y => ?_, fun y => ?_, fun y => ?_⟩, fun b z => ⟨fun y => ?_, fun y => ?_⟩, fun b z y => ?_, fun b z => ?_, fun b z => ?_, h.b.fx⟩
        · have := hF1 b z; have := h.b.xl; omega
        · have := hF2 b z; have := h.b.xl; omega
        · have := o1 b z; have := hF2 b y; omega
        · have := hF1 b z; omega
        · have := hF2 b z; omega
        · omega
        · have := hqf b z; have := h.b.xl; omega
        · have := hef b z; have := h.b.xl; omega
        · have := hqf b y
          rcases z with z | z
          · have := o1 b z; omega
          · have := o2 b z; omega
        · have := hef b y
          rcases z with z | z
          · have := o1 b z; omega
          · have := o2 b z; omega
        · rcases z with z | z
          · have := hF1 b z; omega
          · have := hF2 b z; omega
        · have := hef b y; have := o6 b z; omega
        · have := hqf b z; omega
        · have := hef b z; omega
        · have := hqf b z; omega
        · have := hef b z; omega
      refine hK _ _ _ _ w9 _ ⟨hPn, rfl, h.rel, h.ok, h.hR, h.hl, h.hA⟩ (h.b.pp.move hm09 fun b z => ?_) (fun b z y => ?_) (hm09.blk hb fun z => nb (.inr (.inr (.inr z))))
      · subst z
        exact ⟨fun y => (h.b.aQ b (.inl y)).2.2 rfl, fun y => (h.b.aQ b (.inr y)).2.2 rfl, h.b.fx⟩
      · have hb' := h.b.oldF b z
        rcases y with (y | y) | y | y | y
        · have := hF1 b y; omega
        · have := hF2 b y; omega
        · have := hqf b y; omega
        · have := hef b y; omega
        · exact (h.b.aQ b z).2.2 y
    have last : ∀ (ρ2 : Sl) (w9 : World) (s' : PlS), ρ2 0 = .pointer (some ⟨x, 0, none⟩) → ρ2 3 = .pointer (some ⟨b3, 0, none⟩) → ρ2 5 = .pointer (some ⟨s.q, 0, none⟩) → ρ2 6 = .pointer (some ⟨s.p, 0, none⟩) → PlAt w0 w9 x s' n → PP w0 w9 s.q s.p s.ls s.V s.R s.vs → (∀ b, s.F b → ¬ s'.all x b) → w9.heap[b3]? = some (.cells a.enc.toArray tBc (0, 0)) → seqK (sx fn_ Try.prog 150 dispatcherlaw14_play_does_R11 K) K .normal ρ2 w9 := by
      intro ρ2 w9 s' u0 u3 u5 u6 hP9 ho9 hap9 hb9
      rw [sq_n]
      refine does_R11 (s := s) (s' := s') hP9.b ho9 hap9 hR (by omega) hb9 (fun z => nb (.inl z)) u0 u3 u5 u6 ?_
      intro ρ3 w10 v4 hP10
      exact hk ρ3 w10 s' v4 ⟨hP10, hP9.e, hP9.rel, hP9.ok, hP9.hR, hP9.hl, hP9.hA⟩
    refine ⟨?_, ?_⟩
    · rw [VK_eq_of (run_ld1 uPW rfl (hc2 w5 (Mod.refl _ _)))]
      refine ⟨trivial, ?_, ?_⟩
      · refine CK_st Try.func56 rfl rfl (RCopy_ok hdq5 (by omega)) ?_
        rintro _ w6 ⟨k1, D1, rfl, hq6, hqf, hm6⟩
        refine ⟨trivial, ?_⟩
        rw [VK_eq_of (run_ld1 uPE rfl (hc3 w6 hm6))]
        refine ⟨trivial, ?_⟩
        refine CK_st Try.func57 rfl rfl (RCopyP_ok (hed5.calm hm6) (by omega)) ?_
        rintro _ w7 ⟨d1, v1, rfl, he7, hef, hm7⟩
        refine ⟨trivial, ?_⟩
        refine fin w6 w7 k1 d1 D1 v1 _ hm6 hq6 hqf hm7 he7 hef ?_
        intro a1 a2 a3 a4 w9 s' hP9 ho9 hap9 hb9
        exact last _ w9 s' (by first | exact t0 | rfl) (by first | exact t3 | rfl) (by first | exact t5 | rfl) (by first | exact t6 | rfl) hP9 ho9 hap9 hb9
      · rw [VK_eq_of (run_ld1 uPE rfl (hc3 w5 (Mod.refl _ _)))]
        refine ⟨trivial, ?_⟩
        refine CK_st Try.func56 rfl rfl (RCopy_ok hdq5 (by omega)) ?_
        rintro _ w6 ⟨k1, D1, rfl, hq6, hqf, hm6⟩
        refine ⟨trivial, ?_⟩
        refine CK_st Try.func57 rfl rfl (RCopyP_ok (hed5.calm hm6) (by omega)) ?_
        rintro _ w7 ⟨d1, v1, rfl, he7, hef, hm7⟩
        refine ⟨trivial, ?_⟩
        refine fin w6 w7 k1 d1 D1 v1 _ hm6 hq6 hqf hm7 he7 hef ?_
        intro a1 a2 a3 a4 w9 s' hP9 ho9 hap9 hb9
        exact last _ w9 s' (by first | exact t0 | rfl) (by first | exact t3 | rfl) (by first | exact t5 | rfl) (by first | exact t6 | rfl) hP9 ho9 hap9 hb9
    · rw [VK_eq_of (run_ld1 uPE rfl (hc3 w5 (Mod.refl _ _)))]
      refine ⟨trivial, ?_⟩
      rw [VK_eq_of (run_ld1 uPW rfl (hc2 w5 (Mod.refl _ _)))]
      refine ⟨trivial, ?_⟩
      refine CK_st Try.func56 rfl rfl (RCopy_ok hdq5 (by omega)) ?_
      rintro _ w6 ⟨k1, D1, rfl, hq6, hqf, hm6⟩
      refine ⟨trivial, ?_⟩
      refine CK_st Try.func57 rfl rfl (RCopyP_ok (hed5.calm hm6) (by omega)) ?_
      rintro _ w7 ⟨d1, v1, rfl, he7, hef, hm7⟩
      refine ⟨trivial, ?_⟩
      refine fin w6 w7 k1 d1 D1 v1 _ hm6 hq6 hqf hm7 he7 hef ?_
      intro a1 a2 a3 a4 w9 s' hP9 ho9 hap9 hb9
      exact last _ w9 s' (by first | exact t0 | rfl) (by first | exact t3 | rfl) (by first | exact t5 | rfl) (by first | exact t6 | rfl) hP9 ho9 hap9 hb9
  exact key _ (by first | exact e0 | rfl) (by first | exact e3 | rfl) (by first | exact e5 | rfl) (by first | exact e6 | rfl)
end
end Go.Proofs.Ytmnkedgmpbcicaa.Que
set_option linter.unusedVariables false
set_option linter.unusedSimpArgs false
set_option maxRecDepth 8000
namespace Go.Proofs.Ytmnkedgmpbcicaa.Que
open Go Go.X Go.RowKit Go.Proofs.Ytmnkedgmpbcicaa.XF Go.Proofs.Ytmnkedgmpbcicaa.XG Go.Proofs.Ytmnkedgmpbcicaa.XK
section
variable {w0 w : World} {x n : Nat} {s : PlS}
abbrev DoesP (w0 : World) (x n : Nat) : Value → World → Prop := fun u w' => u = .bool true ∧ ∃ s', PlAt w0 w' x s' (n + 1)
theorem PlAt.more {n : Nat} (h : PlAt w0 w x s n) : PlAt w0 w x s (n + 1) := ⟨h.b, h.e, h.rel, h.ok, fun i => Nat.le_succ_of_le (h.hR i), Nat.le_succ_of_le h.hl, Nat.le_succ_of_le h.hA⟩
theorem does_R8 {K : Exit → Sl → World → Prop} {ρ : Sl} (h : PlAt w0 w x s n) (e0 : ρ 0 = .pointer (some ⟨x, 0, none⟩))
    (hk : ∀ (ρ' : Sl) (w' : World), ρ' 5 = .pointer (some ⟨s.q, 0, none⟩) → ρ' 6 = .pointer (some ⟨s.p, 0, none⟩) → ρ' 0 = ρ 0 → ρ' 3 = ρ 3 → Mod none_ w w' → K .normal ρ' w') : W fn_ Try.prog 150 dispatcherlaw14_play_does_R8 K ρ w := by
  refine dispatcherlaw14_play_does_R8_tail (D := []) ?_
  have hmd : Mod none_ w { w with drawn := w.drawn + 1 } := (Mod.refl _ w).drawn _
  generalize ({ w with drawn := w.drawn + 1 } : World) = wd at *
  unfold dispatcherlaw14_play_does_R8_T
  rw [e0]
  intro C
  have hC : ∀ w', C w' → w'.heap[x]? = some (.cells s.cs tPl (0, 0)) := fun w' hw => by cases (show w' = wd from hw); exact hmd.blk h.b.blk id
  refine QN_ptr ?_
  refine Qfo (show fieldOff Try.prog tPl 0 = some 0 by kernel_rfl) ?_
  refine QV_of (fun w' hw => run_ld1 uQ rfl (v := .pointer (some ⟨s.q, 0, none⟩)) (by rw [add_pl]; exact pl_c (hC w' hw) (k := 0) rfl)) ?_
  refine QN_ptr ?_
  refine Qfo (show fieldOff Try.prog tPl 1 = some 1 by kernel_rfl) ?_
  refine QV_of (fun w' hw => run_ld1 uPd rfl (v := .pointer (some ⟨s.p, 0, none⟩)) (by rw [add_pl]; exact pl_c (hC w' hw) (k := 1) rfl)) ?_
  exact hk _ wd rfl rfl (by first | rfl | exact e0.symm) rfl hmd
theorem does_ok (h : PlAt w0 w x s n) (hn : n ≤ 400) (a : Bc) : Rt Try.prog 30 #[.pointer (some ⟨x, 0, none⟩), .agg a.enc.toArray] w (DoesP w0 x n) := by
  refine dispatcherlaw14_play_does_calls ?_
  unfold dispatcherlaw14_play_does_F
  refine box_k (cs := a.enc.toArray) rfl fun w1 hb1 hm1 hz1 => ?_
  have h1 := h.calm hm1
  have nb : ¬ s.all x w.heap.size := fun z => by have := h.b.oldA _ z; omega
  have g0 : FO Try.prog w1 tBc 0 0 ⟨w.heap.size, 0, none⟩ 5 (.int .u8 a.kind) := FO.blk hb1 (by kernel_rfl) vU8 rfl rfl
  have step : ∀ (ρ : Sl) (b : Bool) (kd : Int), ρ 10 = .bool b → ρ 9 = .int .u8 kd → ρ 0 = .pointer (some ⟨x, 0, none⟩) → ρ 3 = .pointer (some ⟨w.heap.size, 0, none⟩) → sx fn_ Try.prog 150 dispatcherlaw14_play_does_R0 (blkK 0 (seqK (sx fn_ Try.prog 150 dispatcherlaw14_play_does_R1 (retK Try.prog [ResultVar.tmp 4] (DoesP w0 x n))) (retK Try.prog [ResultVar.tmp 4] (DoesP w0 x n)))) ρ w1 := by
    intro ρ b kd e10 e9 e0 e3
    have fin : ∀ (ρ' : Sl) (w' : World) (s' : PlS), ρ' 4 = .bool true → PlAt w0 w' x s' (n + 1) → blkK 0 (seqK (sx fn_ Try.prog 150 dispatcherlaw14_play_does_R1 (retK Try.prog [ResultVar.tmp 4] (DoesP w0 x n))) (retK Try.prog [ResultVar.tmp 4] (DoesP w0 x n))) .ret ρ' w' := by
      intro ρ' w' s' q4 hP
      show DoesP w0 x n (ρ' 4) w'
      exact ⟨q4, s', hP⟩
    rw [dispatcherlaw14_play_does_R0_eq]; unfold dispatcherlaw14_play_does_R0_F
    rw [e10, e9]
    refine caseC (fun z => ?_) (fun z => ?_)
    · refine does_R2 (a := a) h1 hn hb1 nb (by first | exact e0 | rfl) (by first | exact e3 | rfl) ?_
      intro ρ' w' s' q4 hP
      rw [sq_n, dispatcherlaw14_play_does_R3_eq]; unfold dispatcherlaw14_play_does_R3_F
      exact fin ρ' w' s' q4 hP
    rw [BK_eql]
    refine caseC (fun z2 => ?_) (fun z2 => ?_)
    · refine does_R4 (a := a) h1 hn hb1 nb (by first | exact e0 | rfl) (by first | exact e3 | rfl) ?_
      intro ρ' w' s' q4 hP
      rw [sq_n, dispatcherlaw14_play_does_R5_eq]; unfold dispatcherlaw14_play_does_R5_F
      exact fin ρ' w' s' q4 hP
    rw [BK_eql]
    refine caseC (fun z3 => ?_) (fun z3 => ?_)
    · refine does_R6 (a := a) h1 hn hb1 nb (by first | exact e0 | rfl) (by first | exact e3 | rfl) ?_
      intro ρ' w' s' q4 hP
      rw [sq_n, dispatcherlaw14_play_does_R7_eq]; unfold dispatcherlaw14_play_does_R7_F
      exact fin ρ' w' s' q4 hP
    rw [bk_n, sq_n, dispatcherlaw14_play_does_R1_eq]; unfold dispatcherlaw14_play_does_R1_F
    refine does_R8 (s := s) h1 (by first | exact e0 | rfl) ?_
    intro ρ2 w2 q5 q6 q0 q3 hm2
    rw [sq_n]
    refine does_R9 (a := a) (h1.calm hm2) hn (hm2.blk hb1 id) nb (q0.trans (by first | exact e0 | rfl)) (q3.trans (by first | exact e3 | rfl)) q5 q6 ?_
    intro ρ' w' s' q4 hP
    show DoesP w0 x n (ρ' 4) w'
    exact ⟨q4, s', hP.more⟩
  rw [g0.e, BK_rem (by decide), BK_eql]
  refine caseC (fun z => ?_) (fun z => ?_)
  · exact step _ true _ (by first | rfl | exact congrArg Value.bool z) rfl rfl rfl
  · rw [BK_eql]
    exact step _ _ _ rfl rfl rfl rfl
end
theorem begin_ok (w : World) : Rt Try.prog 29 #[] w fun u w' => ∃ x s, u = .pointer (some ⟨x, 0, none⟩) ∧ PlAt w w' x s 0 := by
  refine dispatcherlaw14_begin_calls ?_
  unfold dispatcherlaw14_begin_F
  refine begun w fun q p V vs w1 h1 => ?_
  rw [build_ok (cs := #[.slice none 0 0]) (by kernel_rfl)]
  refine box_k (cs := #[.slice none 0 0]) rfl fun w2 hb2 hm2 hz2 => ?_
  rw [build_ok (cs := #[.slice none 0 0]) (by kernel_rfl)]
  refine box_k (cs := #[.slice none 0 0]) rfl fun w3 hb3 hm3 hz3 => ?_
  have hm13 := hm2.trans hm3
  rw [build_ok (cs := #[.pointer (some ⟨q, 0, none⟩), .pointer (some ⟨p, 0, none⟩), .pointer (some ⟨w1.heap.size, 0, none⟩), .pointer (some ⟨w2.heap.size, 0, none⟩)]) (by kernel_rfl)]
  refine box_k (cs := #[.pointer (some ⟨q, 0, none⟩), .pointer (some ⟨p, 0, none⟩), .pointer (some ⟨w1.heap.size, 0, none⟩), .pointer (some ⟨w2.heap.size, 0, none⟩)]) rfl fun w4 hb4 hm4 hz4 => ?_
  have s1 := h1.mod.size
  have hD : ∀ b, DF w1.heap.size (.slice none 0 0) b → b = w1.heap.size := fun b z => by
    rcases z with z | z
    · exact z
    · cases z
  have hE : ∀ b, EF w2.heap.size (.slice none 0 0) b → b = w2.heap.size := fun b z => by
    rcases z with z | z
    · exact z
    · cases z
  have hQ : ∀ b, V.F q b ∨ PF p vs b → b < w1.heap.size := fun b z => by
    rcases z with z | z
    · exact h1.qa.old b z
    · exact h1.pa.old b z
  refine ⟨w3.heap.size, ⟨q, p, w1.heap.size, w2.heap.size, [], V, fun _ => [], vs, [], .slice none 0 0, [], .slice none 0 0⟩, rfl, ⟨hb4, h1.calm (hm13.trans hm4), ⟨(hm3.trans hm4).blk hb2 id, World.ownsRow_nil _ _ _ _⟩, ⟨hm4.blk hb3 id, World.ownsRow_nil _ _ _ _⟩, fun b z => ⟨fun y => ?_, fun y => ?_, fun y => ?_⟩, fun b z => ⟨fun y => ?_, fun y => ?_⟩, fun b z y => ?_, fun b z => ?_, fun b z => ?_, ?_⟩, rfl, RelA.nil, OkQ.nil, fun _ => Nat.le_refl _, Nat.le_refl _, Nat.le_refl _⟩
  · have := hQ b z; have := hD b y; omega
  · have := hQ b z; have := hE b y; omega
  · have := hQ b z; omega
  · have := hD b z; have := hE b y; omega
  · have := hD b z; omega
  · have := hE b z; omega
  · have := hD b z; omega
  · have := hE b z; omega
  · omega
end Go.Proofs.Ytmnkedgmpbcicaa.Que
set_option linter.unusedVariables false
set_option maxRecDepth 100000
namespace Go.Proofs.Ytmnkedgmpbcicaa.XJ
open Go Go.X
noncomputable def dispatcherlaw14_PostedMay_b : Code := (Try.f8.body).getD .skip
noncomputable def dispatcherlaw14_PostedMay_R0 : Code := cAt [1, 1, 1, 0, 1] dispatcherlaw14_PostedMay_b
noncomputable def dispatcherlaw14_PostedMay_R1 : Code := cAt [1, 1, 1, 1] dispatcherlaw14_PostedMay_b
noncomputable def dispatcherlaw14_PostedMay_L2 : Code := cAt [1, 1, 1, 1, 0, 1, 0, 0] dispatcherlaw14_PostedMay_b
noncomputable def dispatcherlaw14_PostedMay_R3 : Code := cAt [1, 1, 1, 1, 1] dispatcherlaw14_PostedMay_b
noncomputable def dispatcherlaw14_PostedMay_L4 : Code := cAt [1, 1, 1, 1, 1, 0, 1, 0, 0] dispatcherlaw14_PostedMay_b
noncomputable def dispatcherlaw14_PostedMay_R5 : Code := cAt [1, 1, 1, 1, 1, 1] dispatcherlaw14_PostedMay_b
noncomputable def dispatcherlaw14_PostedMay_R6 : Code := cAt [1, 1, 1, 1, 1, 0, 1, 0, 0, 1, 0, 0, 1, 0] dispatcherlaw14_PostedMay_b
noncomputable def dispatcherlaw14_PostedMay_R7 : Code := cAt [1, 1, 1, 1, 1, 0, 1, 0, 0, 1, 0, 0, 1, 1] dispatcherlaw14_PostedMay_b
noncomputable def dispatcherlaw14_PostedMay_R8 : Code := cAt [1, 1, 1, 1, 1, 0, 1, 0, 0, 1, 1] dispatcherlaw14_PostedMay_b
noncomputable def dispatcherlaw14_PostedMay_R9 : Code := cAt [1, 1, 1, 1, 1, 1, 0] dispatcherlaw14_PostedMay_b
noncomputable def dispatcherlaw14_PostedMay_R10 : Code := cAt [1, 1, 1, 1, 1, 1, 1] dispatcherlaw14_PostedMay_b
noncomputable def dispatcherlaw14_PostedMay_R0_F (z : At) (K : Exit → Sl → World → Prop) (ρ : Sl) (w : World) : Prop :=
  CondK (ρ 29) (K .ret (up ρ 4 (Value.bool false)) w) (K .normal ρ w)
theorem dispatcherlaw14_PostedMay_R0_eq (z : At) (K : Exit → Sl → World → Prop) (ρ : Sl) (w : World) : sx z Try.prog 128 dispatcherlaw14_PostedMay_R0 K ρ w = dispatcherlaw14_PostedMay_R0_F z K ρ w := by kernel_rfl
noncomputable def dispatcherlaw14_PostedMay_R1_F (z : At) (K : Exit → Sl → World → Prop) (ρ : Sl) (w : World) : Prop :=
  W z Try.prog 128 (Code.loop dispatcherlaw14_PostedMay_L2) (blkK 0 (seqK (sx z Try.prog 128 dispatcherlaw14_PostedMay_R3 K) K)) (up ρ 6 (Value.int .i64 0)) w
theorem dispatcherlaw14_PostedMay_R1_eq (z : At) (K : Exit → Sl → World → Prop) (ρ : Sl) (w : World) : sx z Try.prog 128 dispatcherlaw14_PostedMay_R1 K ρ w = dispatcherlaw14_PostedMay_R1_F z K ρ w := by kernel_rfl
noncomputable def dispatcherlaw14_PostedMay_L2_F (z : At) (K : Exit → Sl → World → Prop) (ρ : Sl) (w : World) : Prop :=
  IK Try.prog .len #[22] 3 [false] [(ρ 0)] w fun x32 w => BK Try.prog .lss 3 (.tmp 30) (.tmp 32) (ρ 6) x32 w fun x33 w => CondK x33 (VK Try.prog (Instr.indexAt 22 (ρ 0) (ρ 6)) w fun x39 w => VK Try.prog (Instr.loadAt 48 x39) w fun x40 w => CK Try.prog (Value.func (Fn.func 30) #[] #[]) [(ρ 5), x40] w fun x41 w => BK Try.prog .add 3 (.tmp 34) (.const (Value.int .i64 1)) (ρ 6) (Value.int .i64 1) w fun x35 w => K .normal (up (up (up (up (up (up (up (up (up (up (up (up (up ρ 30 (ρ 6)) 31 (ρ 0)) 32 x32) 33 x33) 36 (ρ 5)) 37 (ρ 0)) 38 (ρ 6)) 39 x39) 40 x40) 41 x41) 34 (ρ 6)) 35 x35) 6 x35) w) (K (.exit 0) (up (up (up (up ρ 30 (ρ 6)) 31 (ρ 0)) 32 x32) 33 x33) w)
theorem dispatcherlaw14_PostedMay_L2_eq (z : At) (K : Exit → Sl → World → Prop) (ρ : Sl) (w : World) : sx z Try.prog 128 dispatcherlaw14_PostedMay_L2 K ρ w = dispatcherlaw14_PostedMay_L2_F z K ρ w := by kernel_rfl
theorem dispatcherlaw14_PostedMay_L2_ok : dstOk 128 dispatcherlaw14_PostedMay_L2 = true := by kernel_rfl
noncomputable def dispatcherlaw14_PostedMay_R3_F (z : At) (K : Exit → Sl → World → Prop) (ρ : Sl) (w : World) : Prop :=
  W z Try.prog 128 (Code.loop dispatcherlaw14_PostedMay_L4) (blkK 2 (seqK (sx z Try.prog 128 dispatcherlaw14_PostedMay_R5 K) K)) (up ρ 7 (Value.int .i64 0)) w
theorem dispatcherlaw14_PostedMay_R3_eq (z : At) (K : Exit → Sl → World → Prop) (ρ : Sl) (w : World) : sx z Try.prog 128 dispatcherlaw14_PostedMay_R3 K ρ w = dispatcherlaw14_PostedMay_R3_F z K ρ w := by kernel_rfl
noncomputable def dispatcherlaw14_PostedMay_L4_F (z : At) (K : Exit → Sl → World → Prop) (ρ : Sl) (w : World) : Prop :=
  NK Try.prog (ρ 5) w fun x44 w => VK Try.prog (Instr.fieldAt 69 x44 3) w fun x45 w => VK Try.prog (Instr.loadAt 67 x45) w fun x46 w => NK Try.prog x46 w fun x47 w => VK Try.prog (Instr.fieldAt 71 x47 0) w fun x48 w => VK Try.prog (Instr.loadAt 41 x48) w fun x49 w => IK Try.prog .len #[41] 3 [false] [x49] w fun x50 w => BK Try.prog .lss 3 (.tmp 42) (.tmp 50) (ρ 7) x50 w fun x51 w => CondK x51 (NK Try.prog (ρ 5) w fun x55 w => VK Try.prog (Instr.fieldAt 69 x55 3) w fun x56 w => VK Try.prog (Instr.loadAt 67 x56) w fun x57 w => NK Try.prog x57 w fun x58 w => VK Try.prog (Instr.fieldAt 71 x58 0) w fun x59 w => VK Try.prog (Instr.loadAt 41 x59) w fun x60 w => VK Try.prog (Instr.indexAt 41 x60 (ρ 7)) w fun x62 w => VK Try.prog (Instr.loadAt 24 x62) w fun x63 w => VK Try.prog (Instr.alloc 24 true (.tuple #[])) w fun x8 w => UK Try.prog (Instr.storeAt 24 x8 x63) w fun _ w => W z Try.prog 128 dispatcherlaw14_PostedMay_R6 (seqK (sx z Try.prog 128 dispatcherlaw14_PostedMay_R7 (blkK 3 (seqK (sx z Try.prog 128 dispatcherlaw14_PostedMay_R8 K) K))) (blkK 3 (seqK (sx z Try.prog 128 dispatcherlaw14_PostedMay_R8 K) K))) (up (up (up (up (up (up (up (up (up (up (up (up (up (up (up (up (up (up (up (up (up ρ 42 (ρ 7)) 43 (ρ 5)) 44 x44) 45 x45) 46 x46) 47 x47) 48 x48) 49 x49) 50 x50) 51 x51) 54 (ρ 5)) 55 x55) 56 x56) 57 x57) 58 x58) 59 x59) 60 x60) 61 (ρ 7)) 62 x62) 63 x63) 8 x8) w) (K (.exit 2) (up (up (up (up (up (up (up (up (up (up ρ 42 (ρ 7)) 43 (ρ 5)) 44 x44) 45 x45) 46 x46) 47 x47) 48 x48) 49 x49) 50 x50) 51 x51) w)
theorem dispatcherlaw14_PostedMay_L4_eq (z : At) (K : Exit → Sl → World → Prop) (ρ : Sl) (w : World) : sx z Try.prog 128 dispatcherlaw14_PostedMay_L4 K ρ w = dispatcherlaw14_PostedMay_L4_F z K ρ w := by kernel_rfl
theorem dispatcherlaw14_PostedMay_L4_ok : dstOk 128 dispatcherlaw14_PostedMay_L4 = true := by kernel_rfl
noncomputable def dispatcherlaw14_PostedMay_R5_F (z : At) (K : Exit → Sl → World → Prop) (ρ : Sl) (w : World) : Prop :=
  W z Try.prog 128 dispatcherlaw14_PostedMay_R9 (seqK (sx z Try.prog 128 dispatcherlaw14_PostedMay_R10 K) K) ρ w
theorem dispatcherlaw14_PostedMay_R5_eq (z : At) (K : Exit → Sl → World → Prop) (ρ : Sl) (w : World) : sx z Try.prog 128 dispatcherlaw14_PostedMay_R5 K ρ w = dispatcherlaw14_PostedMay_R5_F z K ρ w := by kernel_rfl
noncomputable def dispatcherlaw14_PostedMay_R6_ops : Array Oper := opsOf dispatcherlaw14_PostedMay_R6
def dispatcherlaw14_PostedMay_R6_H0 (S : World → Prop) (K : Sl → World → Prop) (ρ : Sl) (w : World) : Prop :=
  HK Try.prog S (nilCk (ρ 5)) fun x65_2 => HK Try.prog S (do pure (Next.value (← Instr.fieldAt 69 x65_2 1))) fun x66_2 => HK Try.prog S (do pure (Next.value (← Instr.loadAt 28 x66_2))) fun x67_2 => HK Try.prog S (nilCk (ρ 5)) fun x69_2 => HK Try.prog S (do pure (Next.value (← Instr.fieldAt 69 x69_2 0))) fun x70_2 => HK Try.prog S (do pure (Next.value (← Instr.loadAt 27 x70_2))) fun x71_2 => HK Try.prog S (do pure (Next.value (← Instr.fieldAt 24 (ρ 8) 1))) fun x72_2 => HK Try.prog S (do pure (Next.value (← Instr.loadAt 3 x72_2))) fun x73_2 => HK Try.prog S (do pure (Next.value (← Instr.fieldAt 24 (ρ 8) 2))) fun x74_2 => HK Try.prog S (do pure (Next.value (← Instr.loadAt 3 x74_2))) fun x75_2 => K (up (up (up (up (up (up (up (up (up (up (up (up ρ 64 (ρ 5)) 65 x65_2) 66 x66_2) 67 x67_2) 68 (ρ 5)) 69 x69_2) 70 x70_2) 71 x71_2) 72 x72_2) 73 x73_2) 74 x74_2) 75 x75_2) w
theorem dispatcherlaw14_PostedMay_R6_q0 (S : World → Prop) (K : Sl → World → Prop) : sxh Try.prog S dispatcherlaw14_PostedMay_R6_ops K [(0, true), (1, true), (2, true), (3, true), (4, true), (5, true), (6, true), (7, true), (8, true), (9, true), (10, true), (11, true)] = dispatcherlaw14_PostedMay_R6_H0 S K := by kernel_rfl
def dispatcherlaw14_PostedMay_R6_H1 (S : World → Prop) (K : Sl → World → Prop) (ρ : Sl) (w : World) : Prop :=
  HK Try.prog S (nilCk (ρ 5)) fun x78_2 => HK Try.prog S (do pure (Next.value (← Instr.fieldAt 69 x78_2 3))) fun x79_2 => HK Try.prog S (do pure (Next.value (← Instr.loadAt 67 x79_2))) fun x80_2 => HK Try.prog S (nilCk (ρ 5)) fun x82_2 => HK Try.prog S (do pure (Next.value (← Instr.fieldAt 69 x82_2 2))) fun x83_2 => HK Try.prog S (do pure (Next.value (← Instr.loadAt 66 x83_2))) fun x84_2 => HK Try.prog S (do pure (Next.value (← Instr.fieldAt 24 (ρ 8) 1))) fun x85_2 => HK Try.prog S (do pure (Next.value (← Instr.loadAt 3 x85_2))) fun x86_2 => HK Try.prog S (do pure (Next.value (← Instr.fieldAt 24 (ρ 8) 2))) fun x87_2 => HK Try.prog S (do pure (Next.value (← Instr.loadAt 3 x87_2))) fun x88_2 => K (up (up (up (up (up (up (up (up (up (up (up (up ρ 77 (ρ 5)) 78 x78_2) 79 x79_2) 80 x80_2) 81 (ρ 5)) 82 x82_2) 83 x83_2) 84 x84_2) 85 x85_2) 86 x86_2) 87 x87_2) 88 x88_2) w
theorem dispatcherlaw14_PostedMay_R6_q1 (S : World → Prop) (K : Sl → World → Prop) : sxh Try.prog S dispatcherlaw14_PostedMay_R6_ops K [(13, true), (14, true), (15, true), (16, true), (17, true), (18, true), (19, true), (20, true), (21, true), (22, true), (23, true), (24, true)] = dispatcherlaw14_PostedMay_R6_H1 S K := by kernel_rfl
def dispatcherlaw14_PostedMay_R6_H2 (S : World → Prop) (K : Sl → World → Prop) (ρ : Sl) (w : World) : Prop :=
  CK Try.prog (Value.func (Fn.func 16) #[] #[]) [(ρ 67), (ρ 71), (ρ 73), (ρ 75)] w fun x76_2 w => S w ∧ (CK Try.prog (Value.func (Fn.func 31) #[] #[]) [(ρ 80), (ρ 84), (ρ 86), (ρ 88)] w fun x89_2 w => S w ∧ (CK Try.prog (Value.func (Fn.func 15) #[] #[]) [x76_2, x89_2] w fun x90_2 w => S w ∧ (HK Try.prog S (do pure (Next.value (← Op.unary UnOp.not x90_2))) fun x91_2 => K (up (up (up (up ρ 76 x76_2) 89 x89_2) 90 x90_2) 91 x91_2) w)))
theorem dispatcherlaw14_PostedMay_R6_q2 (S : World → Prop) (K : Sl → World → Prop) : sxh Try.prog S dispatcherlaw14_PostedMay_R6_ops K [(12, false), (25, false), (26, false), (27, true)] = dispatcherlaw14_PostedMay_R6_H2 S K := by kernel_rfl
def dispatcherlaw14_PostedMay_R6_H (S : World → Prop) (K : Exit → Sl → World → Prop) (ρ : Sl) (w : World) : Prop :=
  dispatcherlaw14_PostedMay_R6_H0 S (dispatcherlaw14_PostedMay_R6_H1 S (dispatcherlaw14_PostedMay_R6_H2 S (K .normal))) ρ w
theorem dispatcherlaw14_PostedMay_R6_steps : planOk Try.prog 128 dispatcherlaw14_PostedMay_R6_ops [(0, true), (1, true), (2, true), (3, true), (4, true), (5, true), (6, true), (7, true), (8, true), (9, true), (10, true), (11, true), (13, true), (14, true), (15, true), (16, true), (17, true), (18, true), (19, true), (20, true), (21, true), (22, true), (23, true), (24, true), (12, false), (25, false), (26, false), (27, true)] (Array.replicate dispatcherlaw14_PostedMay_R6_ops.size false) = true :=
  planOk_step #[true, false, false, false, false, false, false, false, false, false, false, false, false, false, false, false, false, false, false, false, false, false, false, false, false, false, false, false] (by kernel_rfl) (by kernel_rfl) (planOk_step #[true, true, false, false, false, false, false, false, false, false, false, false, false, false, false, false, false, false, false, false, false, false, false, false, false, false, false, false] (by kernel_rfl) (by kernel_rfl) (planOk_step #[true, true, true, false, false, false, false, false, false, false, false, false, false, false, false, false, false, false, false, false, false, false, false, false, false, false, false, false] (by kernel_rfl) (by kernel_rfl) (planOk_step #[true, true, true, true, false, false, false, false, false, false, false, false, false, false, false, false, false, false, false, false, false, false, false, false, false, false, false, false] (by kernel_rfl) (by kernel_rfl) (planOk_step #[true, true, true, true, true, false, false, false, false, false, false, false, false, false, false, false, false, false, false, false, false, false, false, false, false, false, false, false] (by kernel_rfl) (by kernel_rfl) (planOk_step #[true, true, true, true, true, true, false, false, false, false, false, false, false, false, false, false, false, false, false, false, false, false, false, false, false, false, false, false] (by kernel_rfl) (by kernel_rfl) (planOk_step #[true, true, true, true, true, true, true, false, false, false, false, false, false, false, false, false, false, false, false, false, false, false, false, false, false, false, false, false] (by kernel_rfl) (by kernel_rfl) (planOk_step #[true, true, true, true, true, true, true, true, false, false, false, false, false, false, false, false, false, false, false, false, false, false, false, false, false, false, false, false] (by kernel_rfl) (by kernel_rfl) (planOk_step #[true, true, true, true, true, true, true, true, true, false, false, false, false, false, false, false, false, false, false, false, false, false, false, false, false, false, false, false] (by kernel_rfl) (by kernel_rfl) (planOk_step #[true, true, true, true, true, true, true, true, true, true, false, false, false, false, false, false, false, false, false, false, false, false, false, false, false, false, false, false] (by kernel_rfl) (by kernel_rfl) (planOk_step #[true, true, true, true, true, true, true, true, true, true, true, false, false, false, false, false, false, false, false, false, false, false, false, false, false, false, false, false] (by kernel_rfl) (by kernel_rfl) (planOk_step #[true, true, true, true, true, true, true, true, true, true, true, true, false, false, false, false, false, false, false, false, false, false, false, false, false, false, false, false] (by kernel_rfl) (by kernel_rfl) (planOk_step #[true, true, true, true, true, true, true, true, true, true, true, true, false, true, false, false, false, false, false, false, false, false, false, false, false, false, false, false] (by kernel_rfl) (by kernel_rfl) (planOk_step #[true, true, true, true, true, true, true, true, true, true, true, true, false, true, true, false, false, false, false, false, false, false, false, false, false, false, false, false] (by kernel_rfl) (by kernel_rfl) (planOk_step #[true, true, true, true, true, true, true, true, true, true, true, true, false, true, true, true, false, false, false, false, false, false, false, false, false, false, false, false] (by kernel_rfl) (by kernel_rfl) (planOk_step #[true, true, true, true, true, true, true, true, true, true, true, true, false, true, true, true, true, false, false, false, false, false, false, false, false, false, false, false] (by kernel_rfl) (by kernel_rfl) (planOk_step #[true, true, true, true, true, true, true, true, true, true, true, true, false, true, true, true, true, true, false, false, false, false, false, false, false, false, false, false] (by kernel_rfl) (by kernel_rfl) (planOk_step #[true, true, true, true, true, true, true, true, true, true, true, true, false, true, true, true, true, true, true, false, false, false, false, false, false, false, false, false] (by kernel_rfl) (by kernel_rfl) (planOk_step #[true, true, true, true, true, true, true, true, true, true, true, true, false, true, true, true, true, true, true, true, false, false, false, false, false, false, false, false] (by kernel_rfl) (by kernel_rfl) (planOk_step #[true, true, true, true, true, true, true, true, true, true, true, true, false, true, true, true, true, true, true, true, true, false, false, false, false, false, false, false] (by kernel_rfl) (by kernel_rfl) (planOk_step #[true, true, true, true, true, true, true, true, true, true, true, true, false, true, true, true, true, true, true, true, true, true, false, false, false, false, false, false] (by kernel_rfl) (by kernel_rfl) (planOk_step #[true, true, true, true, true, true, true, true, true, true, true, true, false, true, true, true, true, true, true, true, true, true, true, false, false, false, false, false] (by kernel_rfl) (by kernel_rfl) (planOk_step #[true, true, true, true, true, true, true, true, true, true, true, true, false, true, true, true, true, true, true, true, true, true, true, true, false, false, false, false] (by kernel_rfl) (by kernel_rfl) (planOk_step #[true, true, true, true, true, true, true, true, true, true, true, true, false, true, true, true, true, true, true, true, true, true, true, true, true, false, false, false] (by kernel_rfl) (by kernel_rfl) (planOk_step #[true, true, true, true, true, true, true, true, true, true, true, true, true, true, true, true, true, true, true, true, true, true, true, true, true, false, false, false] (by kernel_rfl) (by kernel_rfl) (planOk_step #[true, true, true, true, true, true, true, true, true, true, true, true, true, true, true, true, true, true, true, true, true, true, true, true, true, true, false, false] (by kernel_rfl) (by kernel_rfl) (planOk_step #[true, true, true, true, true, true, true, true, true, true, true, true, true, true, true, true, true, true, true, true, true, true, true, true, true, true, true, false] (by kernel_rfl) (by kernel_rfl) (planOk_step #[true, true, true, true, true, true, true, true, true, true, true, true, true, true, true, true, true, true, true, true, true, true, true, true, true, true, true, true] (by kernel_rfl) (by kernel_rfl) (by kernel_rfl))))))))))))))))))))))))))))
theorem dispatcherlaw14_PostedMay_R6_held {D : List Deferred} (S : World → Prop) {K : Exit → Sl → World → Prop} {ρ : Sl} {w : World} (hS : S { w with drawn := w.drawn + 1 }) (h : dispatcherlaw14_PostedMay_R6_H S K ρ { w with drawn := w.drawn + 1 }) : W ⟨none, D⟩ Try.prog 128 dispatcherlaw14_PostedMay_R6 K ρ w := by
  have e : dispatcherlaw14_PostedMay_R6 = .region (idOf dispatcherlaw14_PostedMay_R6) dispatcherlaw14_PostedMay_R6_ops true := by kernel_rfl
  have q : sxh Try.prog S dispatcherlaw14_PostedMay_R6_ops (K .normal) [(0, true), (1, true), (2, true), (3, true), (4, true), (5, true), (6, true), (7, true), (8, true), (9, true), (10, true), (11, true), (13, true), (14, true), (15, true), (16, true), (17, true), (18, true), (19, true), (20, true), (21, true), (22, true), (23, true), (24, true), (12, false), (25, false), (26, false), (27, true)] ρ { w with drawn := w.drawn + 1 } = dispatcherlaw14_PostedMay_R6_H S K ρ { w with drawn := w.drawn + 1 } := by
    show sxh Try.prog S dispatcherlaw14_PostedMay_R6_ops (K .normal) ([(0, true), (1, true), (2, true), (3, true), (4, true), (5, true), (6, true), (7, true), (8, true), (9, true), (10, true), (11, true)] ++ ([(13, true), (14, true), (15, true), (16, true), (17, true), (18, true), (19, true), (20, true), (21, true), (22, true), (23, true), (24, true)] ++ [(12, false), (25, false), (26, false), (27, true)])) ρ { w with drawn := w.drawn + 1 } = _
    rw [sxh_append, sxh_append, dispatcherlaw14_PostedMay_R6_q2, dispatcherlaw14_PostedMay_R6_q1, dispatcherlaw14_PostedMay_R6_q0]; rfl
  rw [e]
  exact W_held S [(0, true), (1, true), (2, true), (3, true), (4, true), (5, true), (6, true), (7, true), (8, true), (9, true), (10, true), (11, true), (13, true), (14, true), (15, true), (16, true), (17, true), (18, true), (19, true), (20, true), (21, true), (22, true), (23, true), (24, true), (12, false), (25, false), (26, false), (27, true)] (by kernel_rfl) (by kernel_rfl) dispatcherlaw14_PostedMay_R6_steps (by kernel_rfl) hS (Eq.mpr q h)
noncomputable def dispatcherlaw14_PostedMay_R7_F (z : At) (K : Exit → Sl → World → Prop) (ρ : Sl) (w : World) : Prop :=
  CondK (ρ 91) (K .ret (up ρ 4 (Value.bool false)) w) (K .normal ρ w)
theorem dispatcherlaw14_PostedMay_R7_eq (z : At) (K : Exit → Sl → World → Prop) (ρ : Sl) (w : World) : sx z Try.prog 128 dispatcherlaw14_PostedMay_R7 K ρ w = dispatcherlaw14_PostedMay_R7_F z K ρ w := by kernel_rfl
noncomputable def dispatcherlaw14_PostedMay_R8_F (z : At) (K : Exit → Sl → World → Prop) (ρ : Sl) (w : World) : Prop :=
  BK Try.prog .add 3 (.tmp 52) (.const (Value.int .i64 1)) (ρ 7) (Value.int .i64 1) w fun x53 w => K .normal (up (up (up ρ 52 (ρ 7)) 53 x53) 7 x53) w
theorem dispatcherlaw14_PostedMay_R8_eq (z : At) (K : Exit → Sl → World → Prop) (ρ : Sl) (w : World) : sx z Try.prog 128 dispatcherlaw14_PostedMay_R8 K ρ w = dispatcherlaw14_PostedMay_R8_F z K ρ w := by kernel_rfl
noncomputable def dispatcherlaw14_PostedMay_R9_ops : Array Oper := opsOf dispatcherlaw14_PostedMay_R9
def dispatcherlaw14_PostedMay_R9_H0 (S : World → Prop) (K : Sl → World → Prop) (ρ : Sl) (w : World) : Prop :=
  HK Try.prog S (nilCk (ρ 5)) fun x93_2 => HK Try.prog S (do pure (Next.value (← Instr.fieldAt 69 x93_2 1))) fun x94_2 => HK Try.prog S (do pure (Next.value (← Instr.loadAt 28 x94_2))) fun x95_2 => HK Try.prog S (nilCk (ρ 5)) fun x97_2 => HK Try.prog S (do pure (Next.value (← Instr.fieldAt 69 x97_2 0))) fun x98_2 => HK Try.prog S (do pure (Next.value (← Instr.loadAt 27 x98_2))) fun x99_2 => HK Try.prog S (do pure (Next.value (← Instr.loadAt 24 (ρ 3)))) fun x100_2 => HK Try.prog S (nilCk (ρ 5)) fun x103_2 => HK Try.prog S (do pure (Next.value (← Instr.fieldAt 69 x103_2 3))) fun x104_2 => K (up (up (up (up (up (up (up (up (up (up (up (up ρ 92 (ρ 5)) 93 x93_2) 94 x94_2) 95 x95_2) 96 (ρ 5)) 97 x97_2) 98 x98_2) 99 x99_2) 100 x100_2) 102 (ρ 5)) 103 x103_2) 104 x104_2) w
theorem dispatcherlaw14_PostedMay_R9_q0 (S : World → Prop) (K : Sl → World → Prop) : sxh Try.prog S dispatcherlaw14_PostedMay_R9_ops K [(0, true), (1, true), (2, true), (3, true), (4, true), (5, true), (6, true), (7, true), (8, true), (10, true), (11, true), (12, true)] = dispatcherlaw14_PostedMay_R9_H0 S K := by kernel_rfl
def dispatcherlaw14_PostedMay_R9_H1 (S : World → Prop) (K : Sl → World → Prop) (ρ : Sl) (w : World) : Prop :=
  HK Try.prog S (do pure (Next.value (← Instr.loadAt 67 (ρ 104)))) fun x105_2 => HK Try.prog S (nilCk (ρ 5)) fun x107_2 => HK Try.prog S (do pure (Next.value (← Instr.fieldAt 69 x107_2 2))) fun x108_2 => HK Try.prog S (do pure (Next.value (← Instr.loadAt 66 x108_2))) fun x109_2 => HK Try.prog S (do pure (Next.value (← Instr.loadAt 24 (ρ 3)))) fun x110_2 => CK Try.prog (Value.func (Fn.func 13) #[] #[]) [(ρ 95), (ρ 99), (ρ 100)] w fun x101_2 w => S w ∧ (CK Try.prog (Value.func (Fn.func 32) #[] #[]) [x105_2, x109_2, x110_2] w fun x111_2 w => S w ∧ (CK Try.prog (Value.func (Fn.func 15) #[] #[]) [x101_2, x111_2] w fun x112_2 w => S w ∧ (HG Try.prog S x112_2 true  (pure (Next.value (ρ 5))) fun x114_2 => HG Try.prog S x112_2 true  (nilCk x114_2) fun x115_2 => K (up (up (up (up (up (up (up (up (up (up (up (up ρ 105 x105_2) 106 (ρ 5)) 107 x107_2) 108 x108_2) 109 x109_2) 110 x110_2) 101 x101_2) 111 x111_2) 112 x112_2) 113 x112_2) 114 x114_2) 115 x115_2) w)))
theorem dispatcherlaw14_PostedMay_R9_q1 (S : World → Prop) (K : Sl → World → Prop) : sxh Try.prog S dispatcherlaw14_PostedMay_R9_ops K [(13, true), (14, true), (15, true), (16, true), (17, true), (18, true), (9, false), (19, false), (20, false), (21, true), (22, true), (23, true)] = dispatcherlaw14_PostedMay_R9_H1 S K := by kernel_rfl
def dispatcherlaw14_PostedMay_R9_H2 (S : World → Prop) (K : Sl → World → Prop) (ρ : Sl) (w : World) : Prop :=
  HG Try.prog S (ρ 113) true  (do pure (Next.value (← Instr.fieldAt 69 (ρ 115) 1))) fun x116_2 => HG Try.prog S (ρ 113) true  (do pure (Next.value (← Instr.loadAt 28 x116_2))) fun x117_2 => HG Try.prog S (ρ 113) true  (pure (Next.value (ρ 5))) fun x118_2 => HG Try.prog S (ρ 113) true  (nilCk x118_2) fun x119_2 => HG Try.prog S (ρ 113) true  (do pure (Next.value (← Instr.fieldAt 69 x119_2 0))) fun x120_2 => HG Try.prog S (ρ 113) true  (do pure (Next.value (← Instr.loadAt 27 x120_2))) fun x121_2 => HG Try.prog S (ρ 113) true  (do pure (Next.value (← Instr.fieldAt 24 (ρ 3) 1))) fun x122_2 => HG Try.prog S (ρ 113) true  (do pure (Next.value (← Instr.loadAt 3 x122_2))) fun x123_2 => CG Try.prog (ρ 113) true (Value.func (Fn.func 16) #[] #[]) [x117_2, x121_2, x123_2, (Value.int IntKind.i64 (-1))] w fun x124_2 w => S w ∧ (HG Try.prog S (ρ 113) true  (builtin Builtin.len #[31] 3 [false].toArray [x124_2].toArray) fun x125_2 => HG Try.prog S (ρ 113) true  (do pure (Next.value (← (do eqGuard BinOp.eql 3 (Operand.tmp 125) (Operand.const (Value.int IntKind.i64 0)) x125_2 (Value.int IntKind.i64 0); binOp BinOp.eql 3 x125_2 (Value.int IntKind.i64 0))))) fun x126_2 => HK Try.prog S (do pure (Next.value (if ← asBool (ρ 113) then x126_2 else (Value.bool false)))) fun x127_2 => K (up (up (up (up (up (up (up (up (up (up (up (up ρ 116 x116_2) 117 x117_2) 118 x118_2) 119 x119_2) 120 x120_2) 121 x121_2) 122 x122_2) 123 x123_2) 124 x124_2) 125 x125_2) 126 x126_2) 127 x127_2) w)
theorem dispatcherlaw14_PostedMay_R9_q2 (S : World → Prop) (K : Sl → World → Prop) : sxh Try.prog S dispatcherlaw14_PostedMay_R9_ops K [(24, true), (25, true), (26, true), (27, true), (28, true), (29, true), (30, true), (31, true), (32, false), (33, true), (34, true), (35, true)] = dispatcherlaw14_PostedMay_R9_H2 S K := by kernel_rfl
def dispatcherlaw14_PostedMay_R9_H3 (S : World → Prop) (K : Sl → World → Prop) (ρ : Sl) (w : World) : Prop :=
  K (up ρ 4 (ρ 127)) w
theorem dispatcherlaw14_PostedMay_R9_q3 (S : World → Prop) (K : Sl → World → Prop) : sxh Try.prog S dispatcherlaw14_PostedMay_R9_ops K [(36, true)] = dispatcherlaw14_PostedMay_R9_H3 S K := by kernel_rfl
def dispatcherlaw14_PostedMay_R9_H (S : World → Prop) (K : Exit → Sl → World → Prop) (ρ : Sl) (w : World) : Prop :=
  dispatcherlaw14_PostedMay_R9_H0 S (dispatcherlaw14_PostedMay_R9_H1 S (dispatcherlaw14_PostedMay_R9_H2 S (dispatcherlaw14_PostedMay_R9_H3 S (K .normal)))) ρ w
theorem dispatcherlaw14_PostedMay_R9_steps : planOk Try.prog 128 dispatcherlaw14_PostedMay_R9_ops [(0, true), (1, true), (2, true), (3, true), (4, true), (5, true), (6, true), (7, true), (8, true), (10, true), (11, true), (12, true), (13, true), (14, true), (15, true), (16, true), (17, true), (18, true), (9, false), (19, false), (20, false), (21, true), (22, true), (23, true), (24, true), (25, true), (26, true), (27, true), (28, true), (29, true), (30, true), (31, true), (32, false), (33, true), (34, true), (35, true), (36, true)] (Array.replicate dispatcherlaw14_PostedMay_R9_ops.size false) = true :=
  planOk_step #[true, false, false, false, false, false, false, false, false, false, false, false, false, false, false, false, false, false, false, false, false, false, false, false, false, false, false, false, false, false, false, false, false, false, false, false, false] (by kernel_rfl) (by kernel_rfl) (planOk_step #[true, true, false, false, false, false, false, false, false, false, false, false, false, false, false, false, false, false, false, false, false, false, false, false, false, false, false, false, false, false, false, false, false, false, false, false, false] (by kernel_rfl) (by kernel_rfl) (planOk_step #[true, true, true, false, false, false, false, false, false, false, false, false, false, false, false, false, false, false, false, false, false, false, false, false, false, false, false, false, false, false, false, false, false, false, false, false, false] (by kernel_rfl) (by kernel_rfl) (planOk_step #[true, true, true, true, false, false, false, false, false, false, false, false, false, false, false, false, false, false, false, false, false, false, false, false, false, false, false, false, false, false, false, false, false, false, false, false, false] (by kernel_rfl) (by kernel_rfl) (planOk_step #[true, true, true, true, true, false, false, false, false, false, false, false, false, false, false, false, false, false, false, false, false, false, false, false, false, false, false, false, false, false, false, false, false, false, false, false, false] (by kernel_rfl) (by kernel_rfl) (planOk_step #[true, true, true, true, true, true, false, false, false, false, false, false, false, false, false, false, false, false, false, false, false, false, false, false, false, false, false, false, false, false, false, false, false, false, false, false, false] (by kernel_rfl) (by kernel_rfl) (planOk_step #[true, true, true, true, true, true, true, false, false, false, false, false, false, false, false, false, false, false, false, false, false, false, false, false, false, false, false, false, false, false, false, false, false, false, false, false, false] (by kernel_rfl) (by kernel_rfl) (planOk_step #[true, true, true, true, true, true, true, true, false, false, false, false, false, false, false, false, false, false, false, false, false, false, false, false, false, false, false, false, false, false, false, false, false, false, false, false, false] (by kernel_rfl) (by kernel_rfl) (planOk_step #[true, true, true, true, true, true, true, true, true, false, false, false, false, false, false, false, false, false, false, false, false, false, false, false, false, false, false, false, false, false, false, false, false, false, false, false, false] (by kernel_rfl) (by kernel_rfl) (planOk_step #[true, true, true, true, true, true, true, true, true, false, true, false, false, false, false, false, false, false, false, false, false, false, false, false, false, false, false, false, false, false, false, false, false, false, false, false, false] (by kernel_rfl) (by kernel_rfl) (planOk_step #[true, true, true, true, true, true, true, true, true, false, true, true, false, false, false, false, false, false, false, false, false, false, false, false, false, false, false, false, false, false, false, false, false, false, false, false, false] (by kernel_rfl) (by kernel_rfl) (planOk_step #[true, true, true, true, true, true, true, true, true, false, true, true, true, false, false, false, false, false, false, false, false, false, false, false, false, false, false, false, false, false, false, false, false, false, false, false, false] (by kernel_rfl) (by kernel_rfl) (planOk_step #[true, true, true, true, true, true, true, true, true, false, true, true, true, true, false, false, false, false, false, false, false, false, false, false, false, false, false, false, false, false, false, false, false, false, false, false, false] (by kernel_rfl) (by kernel_rfl) (planOk_step #[true, true, true, true, true, true, true, true, true, false, true, true, true, true, true, false, false, false, false, false, false, false, false, false, false, false, false, false, false, false, false, false, false, false, false, false, false] (by kernel_rfl) (by kernel_rfl) (planOk_step #[true, true, true, true, true, true, true, true, true, false, true, true, true, true, true, true, false, false, false, false, false, false, false, false, false, false, false, false, false, false, false, false, false, false, false, false, false] (by kernel_rfl) (by kernel_rfl) (planOk_step #[true, true, true, true, true, true, true, true, true, false, true, true, true, true, true, true, true, false, false, false, false, false, false, false, false, false, false, false, false, false, false, false, false, false, false, false, false] (by kernel_rfl) (by kernel_rfl) (planOk_step #[true, true, true, true, true, true, true, true, true, false, true, true, true, true, true, true, true, true, false, false, false, false, false, false, false, false, false, false, false, false, false, false, false, false, false, false, false] (by kernel_rfl) (by kernel_rfl) (planOk_step #[true, true, true, true, true, true, true, true, true, false, true, true, true, true, true, true, true, true, true, false, false, false, false, false, false, false, false, false, false, false, false, false, false, false, false, false, false] (by kernel_rfl) (by kernel_rfl) (planOk_step #[true, true, true, true, true, true, true, true, true, true, true, true, true, true, true, true, true, true, true, false, false, false, false, false, false, false, false, false, false, false, false, false, false, false, false, false, false] (by kernel_rfl) (by kernel_rfl) (planOk_step #[true, true, true, true, true, true, true, true, true, true, true, true, true, true, true, true, true, true, true, true, false, false, false, false, false, false, false, false, false, false, false, false, false, false, false, false, false] (by kernel_rfl) (by kernel_rfl) (planOk_step #[true, true, true, true, true, true, true, true, true, true, true, true, true, true, true, true, true, true, true, true, true, false, false, false, false, false, false, false, false, false, false, false, false, false, false, false, false] (by kernel_rfl) (by kernel_rfl) (planOk_step #[true, true, true, true, true, true, true, true, true, true, true, true, true, true, true, true, true, true, true, true, true, true, false, false, false, false, false, false, false, false, false, false, false, false, false, false, false] (by kernel_rfl) (by kernel_rfl) (planOk_step #[true, true, true, true, true, true, true, true, true, true, true, true, true, true, true, true, true, true, true, true, true, true, true, false, false, false, false, false, false, false, false, false, false, false, false, false, false] (by kernel_rfl) (by kernel_rfl) (planOk_step #[true, true, true, true, true, true, true, true, true, true, true, true, true, true, true, true, true, true, true, true, true, true, true, true, false, false, false, false, false, false, false, false, false, false, false, false, false] (by kernel_rfl) (by kernel_rfl) (planOk_step #[true, true, true, true, true, true, true, true, true, true, true, true, true, true, true, true, true, true, true, true, true, true, true, true, true, false, false, false, false, false, false, false, false, false, false, false, false] (by kernel_rfl) (by kernel_rfl) (planOk_step #[true, true, true, true, true, true, true, true, true, true, true, true, true, true, true, true, true, true, true, true, true, true, true, true, true, true, false, false, false, false, false, false, false, false, false, false, false] (by kernel_rfl) (by kernel_rfl) (planOk_step #[true, true, true, true, true, true, true, true, true, true, true, true, true, true, true, true, true, true, true, true, true, true, true, true, true, true, true, false, false, false, false, false, false, false, false, false, false] (by kernel_rfl) (by kernel_rfl) (planOk_step #[true, true, true, true, true, true, true, true, true, true, true, true, true, true, true, true, true, true, true, true, true, true, true, true, true, true, true, true, false, false, false, false, false, false, false, false, false] (by kernel_rfl) (by kernel_rfl) (planOk_step #[true, true, true, true, true, true, true, true, true, true, true, true, true, true, true, true, true, true, true, true, true, true, true, true, true, true, true, true, true, false, false, false, false, false, false, false, false] (by kernel_rfl) (by kernel_rfl) (planOk_step #[true, true, true, true, true, true, true, true, true, true, true, true, true, true, true, true, true, true, true, true, true, true, true, true, true, true, true, true, true, true, false, false, false, false, false, false, false] (by kernel_rfl) (by kernel_rfl) (planOk_step #[true, true, true, true, true, true, true, true, true, true, true, true, true, true, true, true, true, true, true, true, true, true, true, true, true, true, true, true, true, true, true, false, false, false, false, false, false] (by kernel_rfl) (by kernel_rfl) (planOk_step #[true, true, true, true, true, true, true, true, true, true, true, true, true, true, true, true, true, true, true, true, true, true, true, true, true, true, true, true, true, true, true, true, false, false, false, false, false] (by kernel_rfl) (by kernel_rfl) (planOk_step #[true, true, true, true, true, true, true, true, true, true, true, true, true, true, true, true, true, true, true, true, true, true, true, true, true, true, true, true, true, true, true, true, true, false, false, false, false] (by kernel_rfl) (by kernel_rfl) (planOk_step #[true, true, true, true, true, true, true, true, true, true, true, true, true, true, true, true, true, true, true, true, true, true, true, true, true, true, true, true, true, true, true, true, true, true, false, false, false] (by kernel_rfl) (by kernel_rfl) (planOk_step #[true, true, true, true, true, true, true, true, true, true, true, true, true, true, true, true, true, true, true, true, true, true, true, true, true, true, true, true, true, true, true, true, true, true, true, false, false] (by kernel_rfl) (by kernel_rfl) (planOk_step #[true, true, true, true, true, true, true, true, true, true, true, true, true, true, true, true, true, true, true, true, true, true, true, true, true, true, true, true, true, true, true, true, true, true, true, true, false] (by kernel_rfl) (by kernel_rfl) (planOk_step #[true, true, true, true, true, true, true, true, true, true, true, true, true, true, true, true, true, true, true, true, true, true, true, true, true, true, true, true, true, true, true, true, true, true, true, true, true] (by kernel_rfl) (by kernel_rfl) (by kernel_rfl)))))))))))))))))))))))))))))))))))))
theorem dispatcherlaw14_PostedMay_R9_held {D : List Deferred} (S : World → Prop) {K : Exit → Sl → World → Prop} {ρ : Sl} {w : World} (hS : S { w with drawn := w.drawn + 1 }) (h : dispatcherlaw14_PostedMay_R9_H S K ρ { w with drawn := w.drawn + 1 }) : W ⟨none, D⟩ Try.prog 128 dispatcherlaw14_PostedMay_R9 K ρ w := by
  have e : dispatcherlaw14_PostedMay_R9 = .region (idOf dispatcherlaw14_PostedMay_R9) dispatcherlaw14_PostedMay_R9_ops true := by kernel_rfl
  have q : sxh Try.prog S dispatcherlaw14_PostedMay_R9_ops (K .normal) [(0, true), (1, true), (2, true), (3, true), (4, true), (5, true), (6, true), (7, true), (8, true), (10, true), (11, true), (12, true), (13, true), (14, true), (15, true), (16, true), (17, true), (18, true), (9, false), (19, false), (20, false), (21, true), (22, true), (23, true), (24, true), (25, true), (26, true), (27, true), (28, true), (29, true), (30, true), (31, true), (32, false), (33, true), (34, true), (35, true), (36, true)] ρ { w with drawn := w.drawn + 1 } = dispatcherlaw14_PostedMay_R9_H S K ρ { w with drawn := w.drawn + 1 } := by
    show sxh Try.prog S dispatcherlaw14_PostedMay_R9_ops (K .normal) ([(0, true), (1, true), (2, true), (3, true), (4, true), (5, true), (6, true), (7, true), (8, true), (10, true), (11, true), (12, true)] ++ ([(13, true), (14, true), (15, true), (16, true), (17, true), (18, true), (9, false), (19, false), (20, false), (21, true), (22, true), (23, true)] ++ ([(24, true), (25, true), (26, true), (27, true), (28, true), (29, true), (30, true), (31, true), (32, false), (33, true), (34, true), (35, true)] ++ [(36, true)]))) ρ { w with drawn := w.drawn + 1 } = _
    rw [sxh_append, sxh_append, sxh_append, dispatcherlaw14_PostedMay_R9_q3, dispatcherlaw14_PostedMay_R9_q2, dispatcherlaw14_PostedMay_R9_q1, dispatcherlaw14_PostedMay_R9_q0]; rfl
  rw [e]
  exact W_held S [(0, true), (1, true), (2, true), (3, true), (4, true), (5, true), (6, true), (7, true), (8, true), (10, true), (11, true), (12, true), (13, true), (14, true), (15, true), (16, true), (17, true), (18, true), (9, false), (19, false), (20, false), (21, true), (22, true), (23, true), (24, true), (25, true), (26, true), (27, true), (28, true), (29, true), (30, true), (31, true), (32, false), (33, true), (34, true), (35, true), (36, true)] (by kernel_rfl) (by kernel_rfl) dispatcherlaw14_PostedMay_R9_steps (by kernel_rfl) hS (Eq.mpr q h)
noncomputable def dispatcherlaw14_PostedMay_R10_F (z : At) (K : Exit → Sl → World → Prop) (ρ : Sl) (w : World) : Prop :=
  K .ret ρ w
theorem dispatcherlaw14_PostedMay_R10_eq (z : At) (K : Exit → Sl → World → Prop) (ρ : Sl) (w : World) : sx z Try.prog 128 dispatcherlaw14_PostedMay_R10 K ρ w = dispatcherlaw14_PostedMay_R10_F z K ρ w := by kernel_rfl
noncomputable def dispatcherlaw14_PostedMay_F (a0 a1 : Value) (w : World) (R : Value → World → Prop) : Prop :=
  VK Try.prog (Instr.box 24 a1) w fun x3 w => CK Try.prog (Value.func (Fn.func 11) #[] #[]) [a0] w fun x10 w => VG Try.prog x10 false (Instr.fieldAt 24 x3 0) w fun x12 w => VG Try.prog x10 false (Instr.loadAt 9 x12) w fun x13 w => IG Try.prog x10 false .len #[9] 3 [false] [x13] w fun x14 w => BG Try.prog x10 false .gtr 3 (.tmp 14) (.const (Value.int .i64 100)) x14 (Value.int .i64 100) w fun x15 w => PK Try.prog x10 (Value.bool true) x15 w fun x16 w => CondK x16 (R (Value.bool true) w) (CK Try.prog (Value.func (Fn.func 29) #[] #[]) [] w fun x17 w => NK Try.prog x17 w fun x19 w => VK Try.prog (Instr.fieldAt 69 x19 0) w fun x20 w => VK Try.prog (Instr.loadAt 27 x20) w fun x21 w => BK Try.prog .eql 27 (.tmp 21) (.const (Value.pointer none)) x21 (Value.pointer none) w fun x22 w => MG Try.prog x22 false x17 w fun x24 w => NG Try.prog x22 false x24 w fun x25 w => VG Try.prog x22 false (Instr.fieldAt 69 x25 1) w fun x26 w => VG Try.prog x22 false (Instr.loadAt 28 x26) w fun x27 w => BG Try.prog x22 false .eql 28 (.tmp 27) (.const (Value.pointer none)) x27 (Value.pointer none) w fun x28 w => PK Try.prog x22 (Value.bool true) x28 w fun x29 w => sx fn_ Try.prog 128 dispatcherlaw14_PostedMay_R0 (seqK (sx fn_ Try.prog 128 dispatcherlaw14_PostedMay_R1 (retK Try.prog [ResultVar.tmp 4] R)) (retK Try.prog [ResultVar.tmp 4] R)) (up (up (up (up (up (up (up (up (up (up (up (up (up (up (up (up (up (up (up (up (up (up (up (up (rho0 [a0, a1]) 3 x3) 4 (Value.bool false)) 9 a0) 10 x10) 11 x10) 12 x12) 13 x13) 14 x14) 15 x15) 16 x16) 17 x17) 5 x17) 18 x17) 19 x19) 20 x20) 21 x21) 22 x22) 23 x22) 24 x24) 25 x25) 26 x26) 27 x27) 28 x28) 29 x29) w)
theorem dispatcherlaw14_PostedMay_eq (a0 a1 : Value) (w : World) (R : Value → World → Prop) : sx fn_ Try.prog 128 dispatcherlaw14_PostedMay_b (retK Try.prog Try.f8.results.toList R) (rho0 [a0, a1]) w = dispatcherlaw14_PostedMay_F a0 a1 w R := by kernel_rfl
theorem dispatcherlaw14_PostedMay_calls {a0 a1 : Value} {w : World} {R : Value → World → Prop} (h : dispatcherlaw14_PostedMay_F a0 a1 w R) : Calls Try.prog 8 #[a0, a1] w fun e w' => ∃ v, e = .returned v ∧ R v w' :=
  Go.X.calls_of_sx (n := 128) (c := dispatcherlaw14_PostedMay_b) Try.func8 (by kernel_rfl) (by kernel_rfl) (Nat.le_of_ble_eq_true rfl) (by kernel_rfl) (Eq.mpr (dispatcherlaw14_PostedMay_eq a0 a1 w R) h)
end Go.Proofs.Ytmnkedgmpbcicaa.XJ
set_option linter.unusedVariables false
set_option linter.unusedSimpArgs false
set_option maxRecDepth 8000
namespace Go.Proofs.Ytmnkedgmpbcicaa.Que
open Go Go.X Go.RowKit Go.Proofs.Ytmnkedgmpbcicaa.XF Go.Proofs.Ytmnkedgmpbcicaa.XG Go.Proofs.Ytmnkedgmpbcicaa.XK
theorem HM' {S : World → Prop} {v : Value} {K : Value → Prop} (hk : K v) : HK Try.prog S (pure (Next.value v)) K := ⟨v, fun _ _ => rfl, hk⟩
section
variable {w0 w : World} {x b b3 n : Nat} {s : PlS} {r : Rc}
theorem both_may {w1 w2 : World} {vm va : Value} {s : PlS} {n : Nat} (h : PlAt w0 w x s n) {rk c : Int} (ho : RowP w (mayV s.R s.ls rk c) vm w1) (ha : MayA w1 s.A s.ls rk c va w2) : Rt Try.prog 15 #[vm, va] w2 fun u w' => u = .bool true ∧ Mod none_ w2 w' := by
  obtain ⟨hO1, hm1⟩ := ho
  obtain ⟨S, hS, hO2, hm2⟩ := ha
  have hO2' : w2.ownsRow w1.heap.size tMs 8 va (mayL s.A s.ls S rk c).length ((mayL s.A s.ls S rk c).flatMap Ms.enc) := hO2
  rw [rel_may h.rel h.ok h.uniq hS (left_uniq h.uniq hS)] at hO2'
  have hl := may_len s.R s.ls rk c
  have hq := Same_ok (owns_mod hO1 hm2 fun _ _ => id) hO2' (by omega)
  exact Calls.mono hq fun e w' ⟨u, he, hu, hm⟩ => ⟨u, he, by rw [hu, decide_eq_true rfl], hm⟩
theorem may_R6 {K : Exit → Sl → World → Prop} {ρ : Sl} (h : PlAt w0 w x s n) (hn : n ≤ 400) (hb : w.heap[b]? = some (.cells r.enc.toArray tRc (0, 0))) (e5 : ρ 5 = .pointer (some ⟨x, 0, none⟩)) (e8 : ρ 8 = .pointer (some ⟨b, 0, none⟩))
    (hk : ∀ (ρ' : Sl) (w' : World), ρ' 91 = .bool false → (∀ j, j < 64 → ρ' j = ρ j) → Mod none_ w w' → K .normal ρ' w') : W fn_ Try.prog 128 dispatcherlaw14_PostedMay_R6 K ρ w := by
  have hmd : Mod none_ w { w with drawn := w.drawn + 1 } := (Mod.refl _ w).drawn _
  refine dispatcherlaw14_PostedMay_R6_held (D := []) (fun w' => Mod none_ w w') hmd ?_
  generalize ({ w with drawn := w.drawn + 1 } : World) = wd at *
  have hx : ∀ w', Mod none_ w w' → w'.heap[x]? = some (.cells s.cs tPl (0, 0)) := fun w' hm => hm.blk h.b.blk id
  have hbb : ∀ w', Mod none_ w w' → w'.heap[b]? = some (.cells r.enc.toArray tRc (0, 0)) := fun w' hm => hm.blk hb id
  have lq : ∀ w', Mod none_ w w' → (Instr.loadAt 27 (.pointer (some ⟨x, 0, none⟩))).run Try.prog w' = .ok (.pointer (some ⟨s.q, 0, none⟩)) w' := fun w' hm => run_ld1 uQ rfl (pl_c (hx w' hm) (k := 0) rfl)
  have lp : ∀ w', Mod none_ w w' → (Instr.loadAt 28 (.pointer (some ⟨x, 1, none⟩))).run Try.prog w' = .ok (.pointer (some ⟨s.p, 0, none⟩)) w' := fun w' hm => run_ld1 uPd rfl (pl_c (hx w' hm) (k := 1) rfl)
  have lk : ∀ w', Mod none_ w w' → (Instr.loadAt 66 (.pointer (some ⟨x, 2, none⟩))).run Try.prog w' = .ok (.pointer (some ⟨s.k, 0, none⟩)) w' := fun w' hm => run_ld1 uPW rfl (pl_c (hx w' hm) (k := 2) rfl)
  have le : ∀ w', Mod none_ w w' → (Instr.loadAt 67 (.pointer (some ⟨x, 3, none⟩))).run Try.prog w' = .ok (.pointer (some ⟨s.d, 0, none⟩)) w' := fun w' hm => run_ld1 uPE rfl (pl_c (hx w' hm) (k := 3) rfl)
  have f0 : ∀ w : World, (Instr.fieldAt tPl (.pointer (some ⟨x, 0, none⟩)) 0).run Try.prog w = .ok (.pointer (some ⟨x, 0, none⟩)) w := fun w => fld (c := 0) (show fieldOff Try.prog tPl 0 = some 0 by kernel_rfl) rfl w
  have f1 : ∀ w : World, (Instr.fieldAt tPl (.pointer (some ⟨x, 0, none⟩)) 1).run Try.prog w = .ok (.pointer (some ⟨x, 1, none⟩)) w := fun w => fld (c := 1) (show fieldOff Try.prog tPl 1 = some 1 by kernel_rfl) rfl w
  have f2 : ∀ w : World, (Instr.fieldAt tPl (.pointer (some ⟨x, 0, none⟩)) 2).run Try.prog w = .ok (.pointer (some ⟨x, 2, none⟩)) w := fun w => fld (c := 2) (show fieldOff Try.prog tPl 2 = some 2 by kernel_rfl) rfl w
  have f3 : ∀ w : World, (Instr.fieldAt tPl (.pointer (some ⟨x, 0, none⟩)) 3).run Try.prog w = .ok (.pointer (some ⟨x, 3, none⟩)) w := fun w => fld (c := 3) (show fieldOff Try.prog tPl 3 = some 3 by kernel_rfl) rfl w
  have rr : ∀ w : World, (Instr.fieldAt tRc (.pointer (some ⟨b, 0, none⟩)) 1).run Try.prog w = .ok (.pointer (some ⟨b, 1, none⟩)) w := fun w => fld (c := 1) (show fieldOff Try.prog tRc 1 = some 1 by kernel_rfl) rfl w
  have rc : ∀ w : World, (Instr.fieldAt tRc (.pointer (some ⟨b, 0, none⟩)) 2).run Try.prog w = .ok (.pointer (some ⟨b, 2, none⟩)) w := fun w => fld (c := 2) (show fieldOff Try.prog tRc 2 = some 2 by kernel_rfl) rfl w
  have lr : ∀ w', Mod none_ w w' → (Instr.loadAt 3 (.pointer (some ⟨b, 1, none⟩))).run Try.prog w' = .ok (.int .i64 r.rank) w' := fun w' hm => run_ld1 vI rfl (by rw [cell_blk (hbb w' hm)]; rfl)
  have lc : ∀ w', Mod none_ w w' → (Instr.loadAt 3 (.pointer (some ⟨b, 2, none⟩))).run Try.prog w' = .ok (.int .i64 r.call) w' := fun w' hm => run_ld1 vI rfl (by rw [cell_blk (hbb w' hm)]; rfl)
  unfold dispatcherlaw14_PostedMay_R6_H dispatcherlaw14_PostedMay_R6_H0
  rw [e5, e8]
  refine HN_ptr (HV_of (fun w _ => f1 w) (HV_of lp (HN_ptr (HV_of (fun w _ => f0 w) (HV_of lq (HV_of (fun w _ => rr w) (HV_of lr (HV_of (fun w _ => rc w) (HV_of lc ?_)))))))))
  have key1 : ∀ ρ2 : Sl, ρ2 67 = .pointer (some ⟨s.p, 0, none⟩) → ρ2 71 = .pointer (some ⟨s.q, 0, none⟩) → ρ2 73 = .int .i64 r.rank → ρ2 75 = .int .i64 r.call → ρ2 5 = .pointer (some ⟨x, 0, none⟩) → ρ2 8 = .pointer (some ⟨b, 0, none⟩) → (∀ j, j < 64 → ρ2 j = ρ j) → dispatcherlaw14_PostedMay_R6_H1 (fun w' => Mod none_ w w') (dispatcherlaw14_PostedMay_R6_H2 (fun w' => Mod none_ w w') (K .normal)) ρ2 wd := by
    intro ρ2 t67 t71 t73 t75 t5 t8 hlo
    unfold dispatcherlaw14_PostedMay_R6_H1
    rw [t5, t8]
    refine HN_ptr (HV_of (fun w _ => f3 w) (HV_of le (HN_ptr (HV_of (fun w _ => f2 w) (HV_of lk (HV_of (fun w _ => rr w) (HV_of lr (HV_of (fun w _ => rc w) (HV_of lc ?_)))))))))
    have key2 : ∀ ρ3 : Sl, ρ3 67 = .pointer (some ⟨s.p, 0, none⟩) → ρ3 71 = .pointer (some ⟨s.q, 0, none⟩) → ρ3 73 = .int .i64 r.rank → ρ3 75 = .int .i64 r.call → ρ3 80 = .pointer (some ⟨s.d, 0, none⟩) → ρ3 84 = .pointer (some ⟨s.k, 0, none⟩) → ρ3 86 = .int .i64 r.rank → ρ3 88 = .int .i64 r.call → (∀ j, j < 64 → ρ3 j = ρ j) → dispatcherlaw14_PostedMay_R6_H2 (fun w' => Mod none_ w w') (K .normal) ρ3 wd := by
      intro ρ3 u67 u71 u73 u75 u80 u84 u86 u88 hlo3
      unfold dispatcherlaw14_PostedMay_R6_H2
      rw [u67, u71, u73, u75, u80, u84, u86, u88]
      have hl := h.hl
      have hA := h.hA
      have hd := h.calm hmd
      refine CK_st Try.func16 rfl rfl (May_ok hd.b.pp.pa (fun i => by have := h.hR i; omega) hd.b.pp.qa h.ok.frm (by omega) r.rank r.call) ?_
      intro vm w1 ho
      have hm1 := hmd.trans ho.2
      refine ⟨hm1, ?_⟩
      have h1 := h.calm hm1
      refine CK_st Try.func31 rfl rfl (RMay_ok h1.b.ed (by omega) h1.dq (by omega) (stab_ex ltM_wo _) r.rank r.call) ?_
      intro va w2 ha
      have hm2 : Mod none_ w w2 := by
        obtain ⟨S, hS, hO2, hm2⟩ := ha
        exact hm1.trans hm2
      refine ⟨hm2, ?_⟩
      refine CK_st Try.func15 rfl rfl (both_may hd ho ha) ?_
      rintro _ w3 ⟨rfl, hm3⟩
      refine ⟨hm2.trans hm3, ?_⟩
      refine HV_of (v := .bool false) (fun w _ => rfl) ?_
      refine hk _ w3 rfl (fun j hj => ?_) (hm2.trans hm3)
      repeat rw [up_lo hj (by decide)]
      exact hlo3 j hj
    refine key2 _ (by first | exact t67 | rfl) (by first | exact t71 | rfl) (by first | exact t73 | rfl) (by first | exact t75 | rfl) rfl rfl rfl rfl (fun j hj => ?_)
    repeat rw [up_lo hj (by decide)]
    exact hlo j hj
  refine key1 _ rfl rfl rfl rfl (by first | exact e5 | rfl) (by first | exact e8 | rfl) (fun j hj => ?_)
  repeat rw [up_lo hj (by decide)]
theorem may_R9 {K : Exit → Sl → World → Prop} {ρ : Sl} (h : PlAt w0 w x s n) (hn : n ≤ 400) (hb : w.heap[b]? = some (.cells r.enc.toArray tRc (0, 0))) (e5 : ρ 5 = .pointer (some ⟨x, 0, none⟩)) (e3 : ρ 3 = .pointer (some ⟨b, 0, none⟩))
    (hk : ∀ (ρ' : Sl) (w' : World), ρ' 4 = .bool true → Mod none_ w w' → K .normal ρ' w') : W fn_ Try.prog 128 dispatcherlaw14_PostedMay_R9 K ρ w := by
  have hmd : Mod none_ w { w with drawn := w.drawn + 1 } := (Mod.refl _ w).drawn _
  show W fn_ Try.prog 128 XJ.dispatcherlaw14_PostedMay_R9 K ρ w
  refine XJ.dispatcherlaw14_PostedMay_R9_held (D := []) (fun w' => Mod none_ w w') hmd ?_
  generalize ({ w with drawn := w.drawn + 1 } : World) = wd at *
  have hx : ∀ w', Mod none_ w w' → w'.heap[x]? = some (.cells s.cs tPl (0, 0)) := fun w' hm => hm.blk h.b.blk id
  have hbb : ∀ w', Mod none_ w w' → w'.heap[b]? = some (.cells r.enc.toArray tRc (0, 0)) := fun w' hm => hm.blk hb id
  have lq : ∀ w', Mod none_ w w' → (Instr.loadAt 27 (.pointer (some ⟨x, 0, none⟩))).run Try.prog w' = .ok (.pointer (some ⟨s.q, 0, none⟩)) w' := fun w' hm => run_ld1 uQ rfl (pl_c (hx w' hm) (k := 0) rfl)
  have lp : ∀ w', Mod none_ w w' → (Instr.loadAt 28 (.pointer (some ⟨x, 1, none⟩))).run Try.prog w' = .ok (.pointer (some ⟨s.p, 0, none⟩)) w' := fun w' hm => run_ld1 uPd rfl (pl_c (hx w' hm) (k := 1) rfl)
  have lk : ∀ w', Mod none_ w w' → (Instr.loadAt 66 (.pointer (some ⟨x, 2, none⟩))).run Try.prog w' = .ok (.pointer (some ⟨s.k, 0, none⟩)) w' := fun w' hm => run_ld1 uPW rfl (pl_c (hx w' hm) (k := 2) rfl)
  have le : ∀ w', Mod none_ w w' → (Instr.loadAt 67 (.pointer (some ⟨x, 3, none⟩))).run Try.prog w' = .ok (.pointer (some ⟨s.d, 0, none⟩)) w' := fun w' hm => run_ld1 uPE rfl (pl_c (hx w' hm) (k := 3) rfl)
  have f0 : ∀ w : World, (Instr.fieldAt tPl (.pointer (some ⟨x, 0, none⟩)) 0).run Try.prog w = .ok (.pointer (some ⟨x, 0, none⟩)) w := fun w => fld (c := 0) (show fieldOff Try.prog tPl 0 = some 0 by kernel_rfl) rfl w
  have f1 : ∀ w : World, (Instr.fieldAt tPl (.pointer (some ⟨x, 0, none⟩)) 1).run Try.prog w = .ok (.pointer (some ⟨x, 1, none⟩)) w := fun w => fld (c := 1) (show fieldOff Try.prog tPl 1 = some 1 by kernel_rfl) rfl w
  have f2 : ∀ w : World, (Instr.fieldAt tPl (.pointer (some ⟨x, 0, none⟩)) 2).run Try.prog w = .ok (.pointer (some ⟨x, 2, none⟩)) w := fun w => fld (c := 2) (show fieldOff Try.prog tPl 2 = some 2 by kernel_rfl) rfl w
  have f3 : ∀ w : World, (Instr.fieldAt tPl (.pointer (some ⟨x, 0, none⟩)) 3).run Try.prog w = .ok (.pointer (some ⟨x, 3, none⟩)) w := fun w => fld (c := 3) (show fieldOff Try.prog tPl 3 = some 3 by kernel_rfl) rfl w
  have rr : ∀ w : World, (Instr.fieldAt tRc (.pointer (some ⟨b, 0, none⟩)) 1).run Try.prog w = .ok (.pointer (some ⟨b, 1, none⟩)) w := fun w => fld (c := 1) (show fieldOff Try.prog tRc 1 = some 1 by kernel_rfl) rfl w
  have lr : ∀ w', Mod none_ w w' → (Instr.loadAt 3 (.pointer (some ⟨b, 1, none⟩))).run Try.prog w' = .ok (.int .i64 r.rank) w' := fun w' hm => run_ld1 vI rfl (by rw [cell_blk (hbb w' hm)]; rfl)
  have la : ∀ w', Mod none_ w w' → (Instr.loadAt tRc (.pointer (some ⟨b, 0, none⟩))).run Try.prog w' = .ok (.agg r.enc.toArray) w' := fun w' hm => run_ldB Try.underlying24 rfl (by rw [iRc]; rfl) (hbb w' hm)
  have hl := h.hl
  have hA := h.hA
  have hR : ∀ i, (s.R i).length ≤ 1000000 := fun i => by have := h.hR i; omega
  unfold XJ.dispatcherlaw14_PostedMay_R9_H XJ.dispatcherlaw14_PostedMay_R9_H0
  rw [e5, e3]
  refine HN_ptr (HV_of (fun w _ => f1 w) (HV_of lp (HN_ptr (HV_of (fun w _ => f0 w) (HV_of lq (HV_of la (HN_ptr (HV_of (fun w _ => f3 w) ?_))))))))
  have key1 : ∀ ρ2 : Sl, ρ2 95 = .pointer (some ⟨s.p, 0, none⟩) → ρ2 99 = .pointer (some ⟨s.q, 0, none⟩) → ρ2 100 = .agg r.enc.toArray → ρ2 104 = .pointer (some ⟨x, 3, none⟩) → ρ2 5 = .pointer (some ⟨x, 0, none⟩) → ρ2 3 = .pointer (some ⟨b, 0, none⟩) → XJ.dispatcherlaw14_PostedMay_R9_H1 (fun w' => Mod none_ w w') (XJ.dispatcherlaw14_PostedMay_R9_H2 (fun w' => Mod none_ w w') (XJ.dispatcherlaw14_PostedMay_R9_H3 (fun w' => Mod none_ w w') (K .normal))) ρ2 wd := by
    intro ρ2 t95 t99 t100 t104 t5 t3
    unfold XJ.dispatcherlaw14_PostedMay_R9_H1
    rw [t95, t99, t100, t104, t5, t3]
    refine HV_of le (HN_ptr (HV_of (fun w _ => f2 w) (HV_of lk (HV_of la ?_))))
    have hd := h.calm hmd
    refine CK_st Try.func13 rfl rfl (Probe_ok hd.b.pp.pa hR hd.b.pp.qa h.ok.frm (by omega) r) ?_
    rintro vm w1 ⟨hO1, hp1⟩
    have hm1 := hmd.trans hp1
    refine ⟨hm1, ?_⟩
    have h1 := h.calm hm1
    refine CK_st Try.func32 rfl rfl (RProbe_ok h1.b.ed (by omega) h1.dq (by omega) r) ?_
    rintro va w2 ⟨S, hS, hO2, hp2⟩
    have hm2 := hm1.trans hp2
    refine ⟨hm2, ?_⟩
    rw [rel_probe h.rel h.uniq hS (left_uniq h.uniq hS)] at hO2
    have hfl : (freeV s.ls r (rowP s.R r.rank)).length ≤ 64 := Nat.le_trans (List.length_filterMap_le _ _) (upto_len s.ls r.key r.rank 64)
    refine CK_st Try.func15 rfl rfl (Same_ok (owns_mod hO1 hp2 fun _ _ => id) hO2 (by omega)) ?_
    rintro _ w3 ⟨rfl, hp3⟩
    have hm3 := hm2.trans hp3
    refine ⟨hm3, ?_⟩
    rw [decide_eq_true rfl, HG_b, if_pos rfl]
    refine HM' ?_
    rw [HG_b, if_pos rfl]
    refine HN_ptr ?_
    have key2 : ∀ ρ3 : Sl, ρ3 113 = .bool true → ρ3 115 = .pointer (some ⟨x, 0, none⟩) → ρ3 5 = .pointer (some ⟨x, 0, none⟩) → ρ3 3 = .pointer (some ⟨b, 0, none⟩) → XJ.dispatcherlaw14_PostedMay_R9_H2 (fun w' => Mod none_ w w') (XJ.dispatcherlaw14_PostedMay_R9_H3 (fun w' => Mod none_ w w') (K .normal)) ρ3 w3 := by
      intro ρ3 u113 u115 u5 u3
      unfold XJ.dispatcherlaw14_PostedMay_R9_H2
      rw [u113, u115, u5, u3]
      rw [HG_b, if_pos rfl]
      refine HV_of (fun w _ => f1 w) ?_
      rw [HG_b, if_pos rfl]
      refine HV_of lp ?_
      rw [HG_b, if_pos rfl]
      refine HM' ?_
      rw [HG_b, if_pos rfl]
      refine HN_ptr ?_
      rw [HG_b, if_pos rfl]
      refine HV_of (fun w _ => f0 w) ?_
      rw [HG_b, if_pos rfl]
      refine HV_of lq ?_
      rw [HG_b, if_pos rfl]
      refine HV_of (fun w _ => rr w) ?_
      rw [HG_b, if_pos rfl]
      refine HV_of lr ?_
      rw [CG_b, if_pos rfl]
      have h3 := h.calm hm3
      refine CK_st Try.func16 rfl rfl (May_ok h3.b.pp.pa hR h3.b.pp.qa h.ok.frm (by omega) r.rank (-1)) ?_
      rintro vn w4 ⟨hO4, hp4⟩
      have hm4 := hm3.trans hp4
      refine ⟨hm4, ?_⟩
      rw [rel_neg h.rel h.ok] at hO4
      obtain ⟨A0, cc, es, _⟩ := reads_cap (reads_of_owns hO4)
      rw [es]
      rw [HG_b, if_pos rfl]
      refine HI_len vMsS _ _ _ _ ?_
      rw [HG_b, if_pos rfl]
      refine HB_of (v := .bool true) (fun _ => rfl) (fun w => by simp [go_sem]) ?_
      refine HP_of ?_
      unfold XJ.dispatcherlaw14_PostedMay_R9_H3
      exact hk _ w4 rfl hm4
    exact key2 _ rfl rfl (by first | exact t5 | rfl) (by first | exact t3 | rfl)
  exact key1 _ rfl rfl rfl rfl (by first | exact e5 | rfl) (by first | exact e3 | rfl)
end
end Go.Proofs.Ytmnkedgmpbcicaa.Que
set_option linter.unusedVariables false
set_option linter.unusedSimpArgs false
set_option maxRecDepth 8000
namespace Go.Proofs.Ytmnkedgmpbcicaa.Que
open Go Go.X Go.RowKit Go.Proofs.Ytmnkedgmpbcicaa.XF Go.Proofs.Ytmnkedgmpbcicaa.XG Go.Proofs.Ytmnkedgmpbcicaa.XK
section
variable {w0 w : World} {x b n : Nat} {s : PlS} {r0 : Rc} {v : Value} {l : List Bc}
theorem may_L2 {K : Exit → Sl → World → Prop} {ρ : Sl} (h : PlAt w0 w x s 0) (hb : Bcts w0 v l) (hl : l.length ≤ 200) (e6 : ρ 6 = .int .i64 0) (e0 : ρ 0 = v) (e5 : ρ 5 = .pointer (some ⟨x, 0, none⟩)) (e3 : ρ 3 = .pointer (some ⟨b, 0, none⟩))
    (hk : ∀ (ρ' : Sl) (w' : World) (s' : PlS), PlAt w0 w' x s' l.length → ρ' 5 = .pointer (some ⟨x, 0, none⟩) → ρ' 3 = .pointer (some ⟨b, 0, none⟩) → K (.exit 0) ρ' w') : W fn_ Try.prog 128 (Code.loop dispatcherlaw14_PostedMay_L2) K ρ w := by
  obtain ⟨A, c, es, _⟩ := reads_cap hb
  refine W_loop dispatcherlaw14_PostedMay_L2_ok (fun ρ' w' => ∃ (i : Nat) (s' : PlS), i ≤ l.length ∧ ρ' 6 = .int .i64 i ∧ ρ' 0 = v ∧ ρ' 5 = .pointer (some ⟨x, 0, none⟩) ∧ ρ' 3 = .pointer (some ⟨b, 0, none⟩) ∧ PlAt w0 w' x s' i) (fun ρ' _ => l.length - (intOf (ρ' 6)).toNat)
    ⟨0, s, Nat.zero_le _, e6, e0, e5, e3, h⟩ ?_
  rintro ρ1 w1 ⟨i, s1, hi, c6, c0, c5, c3, h1⟩
  rw [dispatcherlaw14_PostedMay_L2_eq]; unfold dispatcherlaw14_PostedMay_L2_F
  rw [c6, c0, c5, es, len_sl vBcs, ← es, BK_lss]
  by_cases hlt : i < l.length
  · rw [decide_eq_true (by omega)]
    refine condT ?_
    have hx : l[i]? = some l[i] := List.getElem?_eq_getElem hlt
    refine ldBc (Bcts.calm hb h1.b.pp.mod) hx rfl fun _ => ?_
    refine CK_st Try.func30 rfl rfl (does_ok h1 (by omega) l[i]) ?_
    rintro _ w2 ⟨rfl, s2, h2⟩
    rw [BK_add, wrap_i (by omega) (by omega)]
    refine ⟨⟨i + 1, s2, hlt, rfl, by first | exact c0 | rfl, by first | exact c5 | rfl, by first | exact c3 | rfl, h2⟩, ?_⟩
    simp only [sq_n, sq_x, sq_r, bk_n, bk_r, bk_x, rt_r, rt_n, rs_0, rs_t, pk_1, pk_2, up_at, reduceIte, Nat.reduceEqDiff, intOf]; omega
  · obtain rfl : i = l.length := by omega
    rw [decide_eq_false (by omega)]
    refine condF ?_
    exact hk _ w1 s1 h1 (by first | exact c5 | rfl) (by first | exact c3 | rfl)
theorem may_L4 {K : Exit → Sl → World → Prop} {ρ : Sl} (h : PlAt w0 w x s n) (hn : n ≤ 400) (e7 : ρ 7 = .int .i64 0) (e5 : ρ 5 = .pointer (some ⟨x, 0, none⟩)) (e3 : ρ 3 = .pointer (some ⟨b, 0, none⟩))
    (hk : ∀ (ρ' : Sl) (w' : World), Mod none_ w w' → ρ' 5 = .pointer (some ⟨x, 0, none⟩) → ρ' 3 = .pointer (some ⟨b, 0, none⟩) → K (.exit 2) ρ' w') : W fn_ Try.prog 128 (Code.loop dispatcherlaw14_PostedMay_L4) K ρ w := by
  have hA := h.hA
  refine W_loop dispatcherlaw14_PostedMay_L4_ok (fun ρ' w' => ∃ i : Nat, i ≤ s.A.length ∧ ρ' 7 = .int .i64 i ∧ ρ' 5 = .pointer (some ⟨x, 0, none⟩) ∧ ρ' 3 = .pointer (some ⟨b, 0, none⟩) ∧ Mod none_ w w') (fun ρ' _ => s.A.length - (intOf (ρ' 7)).toNat)
    ⟨0, Nat.zero_le _, e7, e5, e3, Mod.refl _ _⟩ ?_
  rintro ρ1 w1 ⟨i, hi, c7, c5, c3, hm1⟩
  have h1 := h.calm hm1
  obtain ⟨A0, c, es, _⟩ := reads_cap (e_row h1.b.ed)
  have f3 : ∀ w : World, (Instr.fieldAt tPl (.pointer (some ⟨x, 0, none⟩)) 3).run Try.prog w = .ok (.pointer (some ⟨x, 3, none⟩)) w := fun w => fld (c := 3) (show fieldOff Try.prog tPl 3 = some 3 by kernel_rfl) rfl w
  have le : (Instr.loadAt 67 (.pointer (some ⟨x, 3, none⟩))).run Try.prog w1 = .ok (.pointer (some ⟨s.d, 0, none⟩)) w1 := run_ld1 uPE rfl (pl_c h1.b.blk (k := 3) rfl)
  rw [dispatcherlaw14_PostedMay_L4_eq]; unfold dispatcherlaw14_PostedMay_L4_F
  rw [c7, c5, NK_ptr, VK_eq_of (f3 w1), VK_eq_of le, NK_ptr, (f_A h1.b.ed).e, es, len_sl vRcS, ← es, BK_lss]
  by_cases hlt : i < s.A.length
  · rw [decide_eq_true (by omega)]
    refine condT ?_
    have hx : s.A[i]? = some s.A[i] := List.getElem?_eq_getElem hlt
    generalize s.A[i] = r at *
    rw [NK_ptr, VK_eq_of (f3 w1), VK_eq_of le, NK_ptr, (f_A h1.b.ed).e]
    refine ixRc (e_row h1.b.ed) hx rfl fun y => ?_
    refine rcSlot_k fun w2 hb2 hm2 hz2 => ?_
    refine may_R6 (r := r) (h1.calm hm2) hn hb2 (by first | exact c5 | rfl) rfl ?_
    intro ρ2 w3 q91 hlo hm3
    have q7 : ρ2 7 = .int .i64 (i : Int) := (hlo 7 (by decide)).trans (by first | exact c7 | rfl)
    have q5 : ρ2 5 = .pointer (some ⟨x, 0, none⟩) := (hlo 5 (by decide)).trans (by first | exact c5 | rfl)
    have q3 : ρ2 3 = .pointer (some ⟨b, 0, none⟩) := (hlo 3 (by decide)).trans (by first | exact c3 | rfl)
    rw [sq_n, dispatcherlaw14_PostedMay_R7_eq]; unfold dispatcherlaw14_PostedMay_R7_F
    rw [q91]
    refine condF ?_
    rw [bk_n, sq_n, dispatcherlaw14_PostedMay_R8_eq]; unfold dispatcherlaw14_PostedMay_R8_F
    rw [q7, BK_add, wrap_i (by omega) (by omega)]
    refine ⟨⟨i + 1, hlt, rfl, q5, q3, (hm1.trans hm2).trans hm3⟩, ?_⟩
    simp only [sq_n, sq_x, sq_r, bk_n, bk_r, bk_x, rt_r, rt_n, rs_0, rs_t, pk_1, pk_2, up_at, reduceIte, Nat.reduceEqDiff, intOf]; omega
  · obtain rfl : i = s.A.length := by omega
    rw [decide_eq_false (by omega)]
    refine condF ?_
    exact hk _ w1 hm1 (by first | exact c5 | rfl) (by first | exact c3 | rfl)
end
theorem PostedMay_ok {w : World} {v : Value} {l : List Bc} (h : Bcts w v l) (r0 : Rc) : Rt Try.prog 8 #[v, .agg r0.enc.toArray] w fun u w' => u = .bool true ∧ Mod none_ w w' := by
  refine dispatcherlaw14_PostedMay_calls ?_
  unfold dispatcherlaw14_PostedMay_F
  refine box_k (cs := r0.enc.toArray) rfl fun w1 hb1 hm1 hz1 => ?_
  have h1 := Bcts.calm h hm1
  refine CK_st Try.func11 rfl rfl (GreatB_ok h1) ?_
  rintro _ w1 ⟨rfl, rfl⟩
  cases hgr : greatB l with
  | true =>
    simp only [↓VG_u, ↓UG_u, ↓MG_u, ↓NG_u, ↓PG_u, ↓BG_u, ↓CG_u, ↓IG_u, ↓VGtt, ↓VGtf, ↓VGft, ↓VGff, ↓UGtt, ↓UGtf, ↓UGft, ↓UGff, ↓MGtt, ↓MGtf, ↓MGft, ↓MGff, ↓NGtt, ↓NGtf, ↓NGft, ↓NGff, ↓PGtt, ↓PGtf, ↓PGft, ↓PGff, ↓BGtt, ↓BGtf, ↓BGft, ↓BGff, ↓CGtt, ↓CGtf, ↓CGft, ↓CGff, ↓IGtt, ↓IGtf, ↓IGft, ↓IGff, ↓PKt, ↓PKf, ↓CDt, ↓CDf, ↓NOTt, ↓NOTf, ↓NK_ptr]
    exact ⟨by trivial, hm1⟩
  | false =>
    simp only [↓VG_u, ↓UG_u, ↓MG_u, ↓NG_u, ↓PG_u, ↓BG_u, ↓CG_u, ↓IG_u, ↓VGtt, ↓VGtf, ↓VGft, ↓VGff, ↓UGtt, ↓UGtf, ↓UGft, ↓UGff, ↓MGtt, ↓MGtf, ↓MGft, ↓MGff, ↓NGtt, ↓NGtf, ↓NGft, ↓NGff, ↓PGtt, ↓PGtf, ↓PGft, ↓PGff, ↓BGtt, ↓BGtf, ↓BGft, ↓BGff, ↓CGtt, ↓CGtf, ↓CGft, ↓CGff, ↓IGtt, ↓IGtf, ↓IGft, ↓IGff, ↓PKt, ↓PKf, ↓CDt, ↓CDf, ↓NOTt, ↓NOTf, ↓NK_ptr]
    have hl : l.length ≤ 120 := by
      unfold greatB at hgr
      have := (Bool.or_eq_false_iff.1 hgr).1
      simpa using this
    have g0 : FO Try.prog w1 tRc 0 0 ⟨w.heap.size, 0, none⟩ 9 (strV r0.key) := FO.blk hb1 (by kernel_rfl) vS rfl rfl
    rw [g0.e]
    unfold strV
    try simp only [↓VG_u, ↓UG_u, ↓MG_u, ↓NG_u, ↓PG_u, ↓BG_u, ↓CG_u, ↓IG_u, ↓VGtt, ↓VGtf, ↓VGft, ↓VGff, ↓UGtt, ↓UGtf, ↓UGft, ↓UGff, ↓MGtt, ↓MGtf, ↓MGft, ↓MGff, ↓NGtt, ↓NGtf, ↓NGft, ↓NGff, ↓PGtt, ↓PGtf, ↓PGft, ↓PGff, ↓BGtt, ↓BGtf, ↓BGft, ↓BGff, ↓CGtt, ↓CGtf, ↓CGft, ↓CGff, ↓IGtt, ↓IGtf, ↓IGft, ↓IGff, ↓PKt, ↓PKf, ↓CDt, ↓CDf, ↓NOTt, ↓NOTf, ↓NK_ptr]
    rw [len_str vS]
    try simp only [↓VG_u, ↓UG_u, ↓MG_u, ↓NG_u, ↓PG_u, ↓BG_u, ↓CG_u, ↓IG_u, ↓VGtt, ↓VGtf, ↓VGft, ↓VGff, ↓UGtt, ↓UGtf, ↓UGft, ↓UGff, ↓MGtt, ↓MGtf, ↓MGft, ↓MGff, ↓NGtt, ↓NGtf, ↓NGft, ↓NGff, ↓PGtt, ↓PGtf, ↓PGft, ↓PGff, ↓BGtt, ↓BGtf, ↓BGft, ↓BGff, ↓CGtt, ↓CGtf, ↓CGft, ↓CGff, ↓IGtt, ↓IGtf, ↓IGft, ↓IGff, ↓PKt, ↓PKf, ↓CDt, ↓CDf, ↓NOTt, ↓NOTf, ↓NK_ptr]
    rw [BK_gtr]
    try simp only [↓VG_u, ↓UG_u, ↓MG_u, ↓NG_u, ↓PG_u, ↓BG_u, ↓CG_u, ↓IG_u, ↓VGtt, ↓VGtf, ↓VGft, ↓VGff, ↓UGtt, ↓UGtf, ↓UGft, ↓UGff, ↓MGtt, ↓MGtf, ↓MGft, ↓MGff, ↓NGtt, ↓NGtf, ↓NGft, ↓NGff, ↓PGtt, ↓PGtf, ↓PGft, ↓PGff, ↓BGtt, ↓BGtf, ↓BGft, ↓BGff, ↓CGtt, ↓CGtf, ↓CGft, ↓CGff, ↓IGtt, ↓IGtf, ↓IGft, ↓IGff, ↓PKt, ↓PKf, ↓CDt, ↓CDf, ↓NOTt, ↓NOTf, ↓NK_ptr]
    refine caseC (fun hz => ⟨by trivial, hm1⟩) (fun hz => ?_)
    refine CK_st Try.func29 rfl rfl (begin_ok w1) ?_
    rintro _ w2 ⟨x, s, rfl, h2⟩
    have lq : (Instr.loadAt 27 (.pointer (some ⟨x, 0, none⟩))).run Try.prog w2 = .ok (.pointer (some ⟨s.q, 0, none⟩)) w2 := run_ld1 uQ rfl (pl_c h2.b.blk (k := 0) rfl)
    have lp : (Instr.loadAt 28 (.pointer (some ⟨x, 1, none⟩))).run Try.prog w2 = .ok (.pointer (some ⟨s.p, 0, none⟩)) w2 := run_ld1 uPd rfl (pl_c h2.b.blk (k := 1) rfl)
    rw [NK_ptr, VK_eq_of (fld (c := 0) (show fieldOff Try.prog tPl 0 = some 0 by kernel_rfl) rfl w2), VK_eq_of lq, BK_eqlP uQ]
    simp only [Option.isNone_some, ↓VG_u, ↓UG_u, ↓MG_u, ↓NG_u, ↓PG_u, ↓BG_u, ↓CG_u, ↓IG_u, ↓VGtt, ↓VGtf, ↓VGft, ↓VGff, ↓UGtt, ↓UGtf, ↓UGft, ↓UGff, ↓MGtt, ↓MGtf, ↓MGft, ↓MGff, ↓NGtt, ↓NGtf, ↓NGft, ↓NGff, ↓PGtt, ↓PGtf, ↓PGft, ↓PGff, ↓BGtt, ↓BGtf, ↓BGft, ↓BGff, ↓CGtt, ↓CGtf, ↓CGft, ↓CGff, ↓IGtt, ↓IGtf, ↓IGft, ↓IGff, ↓PKt, ↓PKf, ↓CDt, ↓CDf, ↓NOTt, ↓NOTf, ↓NK_ptr]
    rw [VK_eq_of (fld (c := 1) (show fieldOff Try.prog tPl 1 = some 1 by kernel_rfl) rfl w2)]
    try simp only [↓VG_u, ↓UG_u, ↓MG_u, ↓NG_u, ↓PG_u, ↓BG_u, ↓CG_u, ↓IG_u, ↓VGtt, ↓VGtf, ↓VGft, ↓VGff, ↓UGtt, ↓UGtf, ↓UGft, ↓UGff, ↓MGtt, ↓MGtf, ↓MGft, ↓MGff, ↓NGtt, ↓NGtf, ↓NGft, ↓NGff, ↓PGtt, ↓PGtf, ↓PGft, ↓PGff, ↓BGtt, ↓BGtf, ↓BGft, ↓BGff, ↓CGtt, ↓CGtf, ↓CGft, ↓CGff, ↓IGtt, ↓IGtf, ↓IGft, ↓IGff, ↓PKt, ↓PKf, ↓CDt, ↓CDf, ↓NOTt, ↓NOTf, ↓NK_ptr]
    rw [VK_eq_of lp]
    try simp only [↓VG_u, ↓UG_u, ↓MG_u, ↓NG_u, ↓PG_u, ↓BG_u, ↓CG_u, ↓IG_u, ↓VGtt, ↓VGtf, ↓VGft, ↓VGff, ↓UGtt, ↓UGtf, ↓UGft, ↓UGff, ↓MGtt, ↓MGtf, ↓MGft, ↓MGff, ↓NGtt, ↓NGtf, ↓NGft, ↓NGff, ↓PGtt, ↓PGtf, ↓PGft, ↓PGff, ↓BGtt, ↓BGtf, ↓BGft, ↓BGff, ↓CGtt, ↓CGtf, ↓CGft, ↓CGff, ↓IGtt, ↓IGtf, ↓IGft, ↓IGff, ↓PKt, ↓PKf, ↓CDt, ↓CDf, ↓NOTt, ↓NOTf, ↓NK_ptr]
    rw [BK_eqlP uPd]
    simp only [Option.isNone_some, ↓VG_u, ↓UG_u, ↓MG_u, ↓NG_u, ↓PG_u, ↓BG_u, ↓CG_u, ↓IG_u, ↓VGtt, ↓VGtf, ↓VGft, ↓VGff, ↓UGtt, ↓UGtf, ↓UGft, ↓UGff, ↓MGtt, ↓MGtf, ↓MGft, ↓MGff, ↓NGtt, ↓NGtf, ↓NGft, ↓NGff, ↓PGtt, ↓PGtf, ↓PGft, ↓PGff, ↓BGtt, ↓BGtf, ↓BGft, ↓BGff, ↓CGtt, ↓CGtf, ↓CGft, ↓CGff, ↓IGtt, ↓IGtf, ↓IGft, ↓IGff, ↓PKt, ↓PKf, ↓CDt, ↓CDf, ↓NOTt, ↓NOTf, ↓NK_ptr]
    have key : ∀ ρ : Sl, ρ 29 = .bool false → ρ 0 = v → ρ 5 = .pointer (some ⟨x, 0, none⟩) → ρ 3 = .pointer (some ⟨w.heap.size, 0, none⟩) → sx fn_ Try.prog 128 dispatcherlaw14_PostedMay_R0 (seqK (sx fn_ Try.prog 128 dispatcherlaw14_PostedMay_R1 (retK Try.prog [ResultVar.tmp 4] fun u w' => u = .bool true ∧ Mod none_ w w')) (retK Try.prog [ResultVar.tmp 4] fun u w' => u = .bool true ∧ Mod none_ w w')) ρ w2 := by
      intro ρ e29 e0 e5 e3
      rw [dispatcherlaw14_PostedMay_R0_eq]; unfold dispatcherlaw14_PostedMay_R0_F
      rw [e29]
      refine condF ?_
      rw [sq_n, dispatcherlaw14_PostedMay_R1_eq]; unfold dispatcherlaw14_PostedMay_R1_F
      refine may_L2 (b := w.heap.size) h2 h1 (by omega) rfl (by first | exact e0 | rfl) (by first | exact e5 | rfl) (by first | exact e3 | rfl) ?_
      intro ρ2 w3 s3 h3 q5 q3
      rw [bk_x, sq_n, dispatcherlaw14_PostedMay_R3_eq]; unfold dispatcherlaw14_PostedMay_R3_F
      refine may_L4 (b := w.heap.size) h3 (by omega) rfl (by first | exact q5 | rfl) (by first | exact q3 | rfl) ?_
      intro ρ3 w4 hm4 p5 p3
      rw [bk_x, sq_n, dispatcherlaw14_PostedMay_R5_eq]; unfold dispatcherlaw14_PostedMay_R5_F
      refine may_R9 (r := r0) (h3.calm hm4) (by omega) ((h3.b.pp.mod.trans hm4).blk hb1 id) p5 p3 ?_
      intro ρ4 w5 d4 hm5
      rw [sq_n, dispatcherlaw14_PostedMay_R10_eq]; unfold dispatcherlaw14_PostedMay_R10_F
      show ρ4 4 = .bool true ∧ Mod none_ w w5
      exact ⟨d4, ((hm1.trans h3.b.pp.mod).trans hm4).trans hm5⟩
    exact key _ rfl rfl rfl rfl
end Go.Proofs.Ytmnkedgmpbcicaa.Que
set_option linter.unusedVariables false
set_option maxRecDepth 4000
namespace Go.Proofs.Ytmnkedgmpbcicaa.Que
open Go Go.X Go.RowKit
def shM : Sh Ms := ⟨8, fun w m cs => cs = m.enc⟩
def shR : Sh Rc := ⟨9, fun w r cs => cs = r.enc⟩
def shB : Sh Bc := ⟨18, fun w a cs => cs = a.enc⟩
theorem strV_back (b : ByteArray) : strV b.data.toList = .string b := by unfold strV; rw [Array.toArray_toList]
theorem opensM (n : Nat) : OpensAt Try.prog n shM 39 :=
  opens_as (opens_struct Try.underlying39 (by kernel_rfl) (fun m _ => fields_cons rfl (by kernel_rfl) (opens_string Try.underlying9) (fields_cons rfl (by kernel_rfl) (opens_int Try.underlying3) (fields_cons rfl (by kernel_rfl) (opens_int Try.underlying3)
    (fields_cons rfl (by kernel_rfl) (opens_int Try.underlying3) (fields_cons rfl (by kernel_rfl) (opens_int Try.underlying3) (fields_cons rfl (by kernel_rfl) (opens_int Try.underlying2) (fields_cons rfl (by kernel_rfl) (opens_int Try.underlying3) (fields_one rfl (by kernel_rfl) (opens_bool Try.underlying4))))))))))
    (fun x => (⟨x.1.data.toList, x.2.1, x.2.2.1, x.2.2.2.1, x.2.2.2.2.1, x.2.2.2.2.2.1, x.2.2.2.2.2.2.1, x.2.2.2.2.2.2.2⟩ : Ms))
    (fun w v cs h => by
      obtain ⟨c0, d0, rfl, _, ⟨rfl, h0⟩, c1, d1, rfl, _, ⟨rfl, h1⟩, c2, d2, rfl, _, ⟨rfl, h2⟩, c3, d3, rfl, _, ⟨rfl, h3⟩, c4, d4, rfl, _, ⟨rfl, h4⟩, c5, d5, rfl, _, ⟨rfl, h5⟩, c6, d6, rfl, _, ⟨rfl, h6⟩, h7⟩ := h
      subst h7
      show _ = Ms.enc _
      simp only [Ms.enc, strV_back]
      rfl)
theorem opensR (n : Nat) : OpensAt Try.prog n shR 24 :=
  opens_as (opens_struct Try.underlying24 (by kernel_rfl) (fun m _ => fields_cons rfl (by kernel_rfl) (opens_string Try.underlying9) (fields_cons rfl (by kernel_rfl) (opens_int Try.underlying3) (fields_cons rfl (by kernel_rfl) (opens_int Try.underlying3)
    (fields_cons rfl (by kernel_rfl) (opens_int Try.underlying3) (fields_cons rfl (by kernel_rfl) (opens_int Try.underlying3) (fields_cons rfl (by kernel_rfl) (opens_int Try.underlying3) (fields_cons rfl (by kernel_rfl) (opens_bool Try.underlying4) (fields_cons rfl (by kernel_rfl) (opens_int Try.underlying3) (fields_one rfl (by kernel_rfl) (opens_int Try.underlying3)))))))))))
    (fun x => (⟨x.1.data.toList, x.2.1, x.2.2.1, x.2.2.2.1, x.2.2.2.2.1, x.2.2.2.2.2.1, x.2.2.2.2.2.2.1, x.2.2.2.2.2.2.2.1, x.2.2.2.2.2.2.2.2⟩ : Rc))
    (fun w v cs h => by
      obtain ⟨c0, d0, rfl, _, ⟨rfl, h0⟩, c1, d1, rfl, _, ⟨rfl, h1⟩, c2, d2, rfl, _, ⟨rfl, h2⟩, c3, d3, rfl, _, ⟨rfl, h3⟩, c4, d4, rfl, _, ⟨rfl, h4⟩, c5, d5, rfl, _, ⟨rfl, h5⟩, c6, d6, rfl, _, rfl, c7, d7, rfl, _, ⟨rfl, h7⟩, ⟨h8, h9⟩⟩ := h
      subst h8
      show _ = Rc.enc _
      simp only [Rc.enc, strV_back]
      rfl)
theorem opensB (n : Nat) : OpensAt Try.prog n shB 48 :=
  opens_as (opens_struct Try.underlying48 (by kernel_rfl) (fun m _ => fields_cons rfl (by kernel_rfl) (opens_int Try.underlying5) (fields_cons rfl (by kernel_rfl) (opensM m) (fields_one rfl (by kernel_rfl) (opensR m)))))
    (fun x => (⟨x.1, x.2.1, x.2.2⟩ : Bc))
    (fun w v cs h => by
      obtain ⟨c0, d0, rfl, _, ⟨rfl, h0⟩, c1, d1, rfl, _, h1, h2⟩ := h
      obtain rfl : c1 = v.2.1.enc := h1
      obtain rfl : d1 = v.2.2.enc := h2
      rfl)
theorem opensBs (n : Nat) : OpensAt Try.prog n (Sh.slice shB) 22 := opens_slice Try.underlying22 (by kernel_rfl) (fun m _ => opensB m)
theorem Bcts_of {w : World} {x : Value × List Bc} {cs : List Value} (h : (Sh.slice shB).K w x cs) : Bcts w x.1 x.2 := reads_sh h Bc.enc (fun _ => rfl) (fun _ _ hd => hd)
end Go.Proofs.Ytmnkedgmpbcicaa.Que
