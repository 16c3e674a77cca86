/- Several texts of this repo, one behind the other, without what is not used here. -/
import Derived.Test.YtmnkedgmpbcicaaProg
import Derived.Test.YtmnkedgmpbcicaaUM2
set_option linter.unusedVariables false
set_option maxRecDepth 100000
namespace Go.Proofs.Ytmnkedgmpbcicaa.XG
open Go Go.X
noncomputable def dispatcherlaw14_PostedMay_b : Code := (Try.f8.body).getD .skip
noncomputable def dispatcherlaw14_PostedMay_R0 : Code := cAt [1, 1, 1, 0, 1] dispatcherlaw14_PostedMay_b
noncomputable def dispatcherlaw14_PostedMay_R1 : Code := cAt [1, 1, 1, 1] dispatcherlaw14_PostedMay_b
noncomputable def dispatcherlaw14_PostedMay_L2 : Code := cAt [1, 1, 1, 1, 0, 1, 0, 0] dispatcherlaw14_PostedMay_b
noncomputable def dispatcherlaw14_PostedMay_R3 : Code := cAt [1, 1, 1, 1, 1] dispatcherlaw14_PostedMay_b
noncomputable def dispatcherlaw14_PostedMay_L4 : Code := cAt [1, 1, 1, 1, 1, 0, 1, 0, 0] dispatcherlaw14_PostedMay_b
noncomputable def dispatcherlaw14_PostedMay_R5 : Code := cAt [1, 1, 1, 1, 1, 1] dispatcherlaw14_PostedMay_b
noncomputable def dispatcherlaw14_PostedMay_R6 : Code := cAt [1, 1, 1, 1, 1, 0, 1, 0, 0, 1, 0, 0, 1, 0] dispatcherlaw14_PostedMay_b
noncomputable def dispatcherlaw14_PostedMay_R7 : Code := cAt [1, 1, 1, 1, 1, 0, 1, 0, 0, 1, 0, 0, 1, 1] dispatcherlaw14_PostedMay_b
noncomputable def dispatcherlaw14_PostedMay_R8 : Code := cAt [1, 1, 1, 1, 1, 0, 1, 0, 0, 1, 1] dispatcherlaw14_PostedMay_b
noncomputable def dispatcherlaw14_PostedMay_R9 : Code := cAt [1, 1, 1, 1, 1, 1, 0] dispatcherlaw14_PostedMay_b
noncomputable def dispatcherlaw14_PostedMay_R10 : Code := cAt [1, 1, 1, 1, 1, 1, 1] dispatcherlaw14_PostedMay_b
noncomputable def dispatcherlaw14_PostedMay_R0_F (z : At) (K : Exit → Sl → World → Prop) (ρ : Sl) (w : World) : Prop :=
  CondK (ρ 29) (K .ret (up ρ 4 (Value.bool false)) w) (K .normal ρ w)
theorem dispatcherlaw14_PostedMay_R0_eq (z : At) (K : Exit → Sl → World → Prop) (ρ : Sl) (w : World) : sx z Try.prog 128 dispatcherlaw14_PostedMay_R0 K ρ w = dispatcherlaw14_PostedMay_R0_F z K ρ w := by kernel_rfl
noncomputable def dispatcherlaw14_PostedMay_R1_F (z : At) (K : Exit → Sl → World → Prop) (ρ : Sl) (w : World) : Prop :=
  W z Try.prog 128 (Code.loop dispatcherlaw14_PostedMay_L2) (blkK 0 (seqK (sx z Try.prog 128 dispatcherlaw14_PostedMay_R3 K) K)) (up ρ 6 (Value.int .i64 0)) w
theorem dispatcherlaw14_PostedMay_R1_eq (z : At) (K : Exit → Sl → World → Prop) (ρ : Sl) (w : World) : sx z Try.prog 128 dispatcherlaw14_PostedMay_R1 K ρ w = dispatcherlaw14_PostedMay_R1_F z K ρ w := by kernel_rfl
noncomputable def dispatcherlaw14_PostedMay_L2_F (z : At) (K : Exit → Sl → World → Prop) (ρ : Sl) (w : World) : Prop :=
  IK Try.prog .len #[22] 3 [false] [(ρ 0)] w fun x32 w => BK Try.prog .lss 3 (.tmp 30) (.tmp 32) (ρ 6) x32 w fun x33 w => CondK x33 (VK Try.prog (Instr.indexAt 22 (ρ 0) (ρ 6)) w fun x39 w => VK Try.prog (Instr.loadAt 48 x39) w fun x40 w => CK Try.prog (Value.func (Fn.func 30) #[] #[]) [(ρ 5), x40] w fun x41 w => BK Try.prog .add 3 (.tmp 34) (.const (Value.int .i64 1)) (ρ 6) (Value.int .i64 1) w fun x35 w => K .normal (up (up (up (up (up (up (up (up (up (up (up (up (up ρ 30 (ρ 6)) 31 (ρ 0)) 32 x32) 33 x33) 36 (ρ 5)) 37 (ρ 0)) 38 (ρ 6)) 39 x39) 40 x40) 41 x41) 34 (ρ 6)) 35 x35) 6 x35) w) (K (.exit 0) (up (up (up (up ρ 30 (ρ 6)) 31 (ρ 0)) 32 x32) 33 x33) w)
theorem dispatcherlaw14_PostedMay_L2_eq (z : At) (K : Exit → Sl → World → Prop) (ρ : Sl) (w : World) : sx z Try.prog 128 dispatcherlaw14_PostedMay_L2 K ρ w = dispatcherlaw14_PostedMay_L2_F z K ρ w := by kernel_rfl
theorem dispatcherlaw14_PostedMay_L2_ok : dstOk 128 dispatcherlaw14_PostedMay_L2 = true := by kernel_rfl
noncomputable def dispatcherlaw14_PostedMay_R3_F (z : At) (K : Exit → Sl → World → Prop) (ρ : Sl) (w : World) : Prop :=
  W z Try.prog 128 (Code.loop dispatcherlaw14_PostedMay_L4) (blkK 2 (seqK (sx z Try.prog 128 dispatcherlaw14_PostedMay_R5 K) K)) (up ρ 7 (Value.int .i64 0)) w
theorem dispatcherlaw14_PostedMay_R3_eq (z : At) (K : Exit → Sl → World → Prop) (ρ : Sl) (w : World) : sx z Try.prog 128 dispatcherlaw14_PostedMay_R3 K ρ w = dispatcherlaw14_PostedMay_R3_F z K ρ w := by kernel_rfl
noncomputable def dispatcherlaw14_PostedMay_L4_F (z : At) (K : Exit → Sl → World → Prop) (ρ : Sl) (w : World) : Prop :=
  NK Try.prog (ρ 5) w fun x44 w => VK Try.prog (Instr.fieldAt 69 x44 3) w fun x45 w => VK Try.prog (Instr.loadAt 67 x45) w fun x46 w => NK Try.prog x46 w fun x47 w => VK Try.prog (Instr.fieldAt 71 x47 0) w fun x48 w => VK Try.prog (Instr.loadAt 41 x48) w fun x49 w => IK Try.prog .len #[41] 3 [false] [x49] w fun x50 w => BK Try.prog .lss 3 (.tmp 42) (.tmp 50) (ρ 7) x50 w fun x51 w => CondK x51 (NK Try.prog (ρ 5) w fun x55 w => VK Try.prog (Instr.fieldAt 69 x55 3) w fun x56 w => VK Try.prog (Instr.loadAt 67 x56) w fun x57 w => NK Try.prog x57 w fun x58 w => VK Try.prog (Instr.fieldAt 71 x58 0) w fun x59 w => VK Try.prog (Instr.loadAt 41 x59) w fun x60 w => VK Try.prog (Instr.indexAt 41 x60 (ρ 7)) w fun x62 w => VK Try.prog (Instr.loadAt 24 x62) w fun x63 w => VK Try.prog (Instr.alloc 24 true (.tuple #[])) w fun x8 w => UK Try.prog (Instr.storeAt 24 x8 x63) w fun _ w => W z Try.prog 128 dispatcherlaw14_PostedMay_R6 (seqK (sx z Try.prog 128 dispatcherlaw14_PostedMay_R7 (blkK 3 (seqK (sx z Try.prog 128 dispatcherlaw14_PostedMay_R8 K) K))) (blkK 3 (seqK (sx z Try.prog 128 dispatcherlaw14_PostedMay_R8 K) K))) (up (up (up (up (up (up (up (up (up (up (up (up (up (up (up (up (up (up (up (up (up ρ 42 (ρ 7)) 43 (ρ 5)) 44 x44) 45 x45) 46 x46) 47 x47) 48 x48) 49 x49) 50 x50) 51 x51) 54 (ρ 5)) 55 x55) 56 x56) 57 x57) 58 x58) 59 x59) 60 x60) 61 (ρ 7)) 62 x62) 63 x63) 8 x8) w) (K (.exit 2) (up (up (up (up (up (up (up (up (up (up ρ 42 (ρ 7)) 43 (ρ 5)) 44 x44) 45 x45) 46 x46) 47 x47) 48 x48) 49 x49) 50 x50) 51 x51) w)
theorem dispatcherlaw14_PostedMay_L4_eq (z : At) (K : Exit → Sl → World → Prop) (ρ : Sl) (w : World) : sx z Try.prog 128 dispatcherlaw14_PostedMay_L4 K ρ w = dispatcherlaw14_PostedMay_L4_F z K ρ w := by kernel_rfl
theorem dispatcherlaw14_PostedMay_L4_ok : dstOk 128 dispatcherlaw14_PostedMay_L4 = true := by kernel_rfl
noncomputable def dispatcherlaw14_PostedMay_R5_F (z : At) (K : Exit → Sl → World → Prop) (ρ : Sl) (w : World) : Prop :=
  W z Try.prog 128 dispatcherlaw14_PostedMay_R9 (seqK (sx z Try.prog 128 dispatcherlaw14_PostedMay_R10 K) K) ρ w
theorem dispatcherlaw14_PostedMay_R5_eq (z : At) (K : Exit → Sl → World → Prop) (ρ : Sl) (w : World) : sx z Try.prog 128 dispatcherlaw14_PostedMay_R5 K ρ w = dispatcherlaw14_PostedMay_R5_F z K ρ w := by kernel_rfl
noncomputable def dispatcherlaw14_PostedMay_R6_ops : Array Oper := opsOf dispatcherlaw14_PostedMay_R6
def dispatcherlaw14_PostedMay_R6_H0 (S : World → Prop) (K : Sl → World → Prop) (ρ : Sl) (w : World) : Prop :=
  HK Try.prog S (nilCk (ρ 5)) fun x65_2 => HK Try.prog S (do pure (Next.value (← Instr.fieldAt 69 x65_2 1))) fun x66_2 => HK Try.prog S (do pure (Next.value (← Instr.loadAt 28 x66_2))) fun x67_2 => HK Try.prog S (nilCk (ρ 5)) fun x69_2 => HK Try.prog S (do pure (Next.value (← Instr.fieldAt 69 x69_2 0))) fun x70_2 => HK Try.prog S (do pure (Next.value (← Instr.loadAt 27 x70_2))) fun x71_2 => HK Try.prog S (do pure (Next.value (← Instr.fieldAt 24 (ρ 8) 1))) fun x72_2 => HK Try.prog S (do pure (Next.value (← Instr.loadAt 3 x72_2))) fun x73_2 => HK Try.prog S (do pure (Next.value (← Instr.fieldAt 24 (ρ 8) 2))) fun x74_2 => HK Try.prog S (do pure (Next.value (← Instr.loadAt 3 x74_2))) fun x75_2 => K (up (up (up (up (up (up (up (up (up (up (up (up ρ 64 (ρ 5)) 65 x65_2) 66 x66_2) 67 x67_2) 68 (ρ 5)) 69 x69_2) 70 x70_2) 71 x71_2) 72 x72_2) 73 x73_2) 74 x74_2) 75 x75_2) w
theorem dispatcherlaw14_PostedMay_R6_q0 (S : World → Prop) (K : Sl → World → Prop) : sxh Try.prog S dispatcherlaw14_PostedMay_R6_ops K [(0, true), (1, true), (2, true), (3, true), (4, true), (5, true), (6, true), (7, true), (8, true), (9, true), (10, true), (11, true)] = dispatcherlaw14_PostedMay_R6_H0 S K := by kernel_rfl
def dispatcherlaw14_PostedMay_R6_H1 (S : World → Prop) (K : Sl → World → Prop) (ρ : Sl) (w : World) : Prop :=
  HK Try.prog S (nilCk (ρ 5)) fun x78_2 => HK Try.prog S (do pure (Next.value (← Instr.fieldAt 69 x78_2 3))) fun x79_2 => HK Try.prog S (do pure (Next.value (← Instr.loadAt 67 x79_2))) fun x80_2 => HK Try.prog S (nilCk (ρ 5)) fun x82_2 => HK Try.prog S (do pure (Next.value (← Instr.fieldAt 69 x82_2 2))) fun x83_2 => HK Try.prog S (do pure (Next.value (← Instr.loadAt 66 x83_2))) fun x84_2 => HK Try.prog S (do pure (Next.value (← Instr.fieldAt 24 (ρ 8) 1))) fun x85_2 => HK Try.prog S (do pure (Next.value (← Instr.loadAt 3 x85_2))) fun x86_2 => HK Try.prog S (do pure (Next.value (← Instr.fieldAt 24 (ρ 8) 2))) fun x87_2 => HK Try.prog S (do pure (Next.value (← Instr.loadAt 3 x87_2))) fun x88_2 => K (up (up (up (up (up (up (up (up (up (up (up (up ρ 77 (ρ 5)) 78 x78_2) 79 x79_2) 80 x80_2) 81 (ρ 5)) 82 x82_2) 83 x83_2) 84 x84_2) 85 x85_2) 86 x86_2) 87 x87_2) 88 x88_2) w
theorem dispatcherlaw14_PostedMay_R6_q1 (S : World → Prop) (K : Sl → World → Prop) : sxh Try.prog S dispatcherlaw14_PostedMay_R6_ops K [(13, true), (14, true), (15, true), (16, true), (17, true), (18, true), (19, true), (20, true), (21, true), (22, true), (23, true), (24, true)] = dispatcherlaw14_PostedMay_R6_H1 S K := by kernel_rfl
def dispatcherlaw14_PostedMay_R6_H2 (S : World → Prop) (K : Sl → World → Prop) (ρ : Sl) (w : World) : Prop :=
  CK Try.prog (Value.func (Fn.func 16) #[] #[]) [(ρ 67), (ρ 71), (ρ 73), (ρ 75)] w fun x76_2 w => S w ∧ (CK Try.prog (Value.func (Fn.func 31) #[] #[]) [(ρ 80), (ρ 84), (ρ 86), (ρ 88)] w fun x89_2 w => S w ∧ (CK Try.prog (Value.func (Fn.func 15) #[] #[]) [x76_2, x89_2] w fun x90_2 w => S w ∧ (HK Try.prog S (do pure (Next.value (← Op.unary UnOp.not x90_2))) fun x91_2 => K (up (up (up (up ρ 76 x76_2) 89 x89_2) 90 x90_2) 91 x91_2) w)))
theorem dispatcherlaw14_PostedMay_R6_q2 (S : World → Prop) (K : Sl → World → Prop) : sxh Try.prog S dispatcherlaw14_PostedMay_R6_ops K [(12, false), (25, false), (26, false), (27, true)] = dispatcherlaw14_PostedMay_R6_H2 S K := by kernel_rfl
def dispatcherlaw14_PostedMay_R6_H (S : World → Prop) (K : Exit → Sl → World → Prop) (ρ : Sl) (w : World) : Prop :=
  dispatcherlaw14_PostedMay_R6_H0 S (dispatcherlaw14_PostedMay_R6_H1 S (dispatcherlaw14_PostedMay_R6_H2 S (K .normal))) ρ w
theorem dispatcherlaw14_PostedMay_R6_steps : planOk Try.prog 128 dispatcherlaw14_PostedMay_R6_ops [(0, true), (1, true), (2, true), (3, true), (4, true), (5, true), (6, true), (7, true), (8, true), (9, true), (10, true), (11, true), (13, true), (14, true), (15, true), (16, true), (17, true), (18, true), (19, true), (20, true), (21, true), (22, true), (23, true), (24, true), (12, false), (25, false), (26, false), (27, true)] (Array.replicate dispatcherlaw14_PostedMay_R6_ops.size false) = true :=
  planOk_step #[true, false, false, false, false, false, false, false, false, false, false, false, false, false, false, false, false, false, false, false, false, false, false, false, false, false, false, false] (by kernel_rfl) (by kernel_rfl) (planOk_step #[true, true, false, false, false, false, false, false, false, false, false, false, false, false, false, false, false, false, false, false, false, false, false, false, false, false, false, false] (by kernel_rfl) (by kernel_rfl) (planOk_step #[true, true, true, false, false, false, false, false, false, false, false, false, false, false, false, false, false, false, false, false, false, false, false, false, false, false, false, false] (by kernel_rfl) (by kernel_rfl) (planOk_step #[true, true, true, true, false, false, false, false, false, false, false, false, false, false, false, false, false, false, false, false, false, false, false, false, false, false, false, false] (by kernel_rfl) (by kernel_rfl) (planOk_step #[true, true, true, true, true, false, false, false, false, false, false, false, false, false, false, false, false, false, false, false, false, false, false, false, false, false, false, false] (by kernel_rfl) (by kernel_rfl) (planOk_step #[true, true, true, true, true, true, false, false, false, false, false, false, false, false, false, false, false, false, false, false, false, false, false, false, false, false, false, false] (by kernel_rfl) (by kernel_rfl) (planOk_step #[true, true, true, true, true, true, true, false, false, false, false, false, false, false, false, false, false, false, false, false, false, false, false, false, false, false, false, false] (by kernel_rfl) (by kernel_rfl) (planOk_step #[true, true, true, true, true, true, true, true, false, false, false, false, false, false, false, false, false, false, false, false, false, false, false, false, false, false, false, false] (by kernel_rfl) (by kernel_rfl) (planOk_step #[true, true, true, true, true, true, true, true, true, false, false, false, false, false, false, false, false, false, false, false, false, false, false, false, false, false, false, false] (by kernel_rfl) (by kernel_rfl) (planOk_step #[true, true, true, true, true, true, true, true, true, true, false, false, false, false, false, false, false, false, false, false, false, false, false, false, false, false, false, false] (by kernel_rfl) (by kernel_rfl) (planOk_step #[true, true, true, true, true, true, true, true, true, true, true, false, false, false, false, false, false, false, false, false, false, false, false, false, false, false, false, false] (by kernel_rfl) (by kernel_rfl) (planOk_step #[true, true, true, true, true, true, true, true, true, true, true, true, false, false, false, false, false, false, false, false, false, false, false, false, false, false, false, false] (by kernel_rfl) (by kernel_rfl) (planOk_step #[true, true, true, true, true, true, true, true, true, true, true, true, false, true, false, false, false, false, false, false, false, false, false, false, false, false, false, false] (by kernel_rfl) (by kernel_rfl) (planOk_step #[true, true, true, true, true, true, true, true, true, true, true, true, false, true, true, false, false, false, false, false, false, false, false, false, false, false, false, false] (by kernel_rfl) (by kernel_rfl) (planOk_step #[true, true, true, true, true, true, true, true, true, true, true, true, false, true, true, true, false, false, false, false, false, false, false, false, false, false, false, false] (by kernel_rfl) (by kernel_rfl) (planOk_step #[true, true, true, true, true, true, true, true, true, true, true, true, false, true, true, true, true, false, false, false, false, false, false, false, false, false, false, false] (by kernel_rfl) (by kernel_rfl) (planOk_step #[true, true, true, true, true, true, true, true, true, true, true, true, false, true, true, true, true, true, false, false, false, false, false, false, false, false, false, false] (by kernel_rfl) (by kernel_rfl) (planOk_step #[true, true, true, true, true, true, true, true, true, true, true, true, false, true, true, true, true, true, true, false, false, false, false, false, false, false, false, false] (by kernel_rfl) (by kernel_rfl) (planOk_step #[true, true, true, true, true, true, true, true, true, true, true, true, false, true, true, true, true, true, true, true, false, false, false, false, false, false, false, false] (by kernel_rfl) (by kernel_rfl) (planOk_step #[true, true, true, true, true, true, true, true, true, true, true, true, false, true, true, true, true, true, true, true, true, false, false, false, false, false, false, false] (by kernel_rfl) (by kernel_rfl) (planOk_step #[true, true, true, true, true, true, true, true, true, true, true, true, false, true, true, true, true, true, true, true, true, true, false, false, false, false, false, false] (by kernel_rfl) (by kernel_rfl) (planOk_step #[true, true, true, true, true, true, true, true, true, true, true, true, false, true, true, true, true, true, true, true, true, true, true, false, false, false, false, false] (by kernel_rfl) (by kernel_rfl) (planOk_step #[true, true, true, true, true, true, true, true, true, true, true, true, false, true, true, true, true, true, true, true, true, true, true, true, false, false, false, false] (by kernel_rfl) (by kernel_rfl) (planOk_step #[true, true, true, true, true, true, true, true, true, true, true, true, false, true, true, true, true, true, true, true, true, true, true, true, true, false, false, false] (by kernel_rfl) (by kernel_rfl) (planOk_step #[true, true, true, true, true, true, true, true, true, true, true, true, true, true, true, true, true, true, true, true, true, true, true, true, true, false, false, false] (by kernel_rfl) (by kernel_rfl) (planOk_step #[true, true, true, true, true, true, true, true, true, true, true, true, true, true, true, true, true, true, true, true, true, true, true, true, true, true, false, false] (by kernel_rfl) (by kernel_rfl) (planOk_step #[true, true, true, true, true, true, true, true, true, true, true, true, true, true, true, true, true, true, true, true, true, true, true, true, true, true, true, false] (by kernel_rfl) (by kernel_rfl) (planOk_step #[true, true, true, true, true, true, true, true, true, true, true, true, true, true, true, true, true, true, true, true, true, true, true, true, true, true, true, true] (by kernel_rfl) (by kernel_rfl) (by kernel_rfl))))))))))))))))))))))))))))
theorem dispatcherlaw14_PostedMay_R6_held {D : List Deferred} (S : World → Prop) {K : Exit → Sl → World → Prop} {ρ : Sl} {w : World} (hS : S { w with drawn := w.drawn + 1 }) (h : dispatcherlaw14_PostedMay_R6_H S K ρ { w with drawn := w.drawn + 1 }) : W ⟨none, D⟩ Try.prog 128 dispatcherlaw14_PostedMay_R6 K ρ w := by
  have e : dispatcherlaw14_PostedMay_R6 = .region (idOf dispatcherlaw14_PostedMay_R6) dispatcherlaw14_PostedMay_R6_ops true := by kernel_rfl
  have q : sxh Try.prog S dispatcherlaw14_PostedMay_R6_ops (K .normal) [(0, true), (1, true), (2, true), (3, true), (4, true), (5, true), (6, true), (7, true), (8, true), (9, true), (10, true), (11, true), (13, true), (14, true), (15, true), (16, true), (17, true), (18, true), (19, true), (20, true), (21, true), (22, true), (23, true), (24, true), (12, false), (25, false), (26, false), (27, true)] ρ { w with drawn := w.drawn + 1 } = dispatcherlaw14_PostedMay_R6_H S K ρ { w with drawn := w.drawn + 1 } := by
    show sxh Try.prog S dispatcherlaw14_PostedMay_R6_ops (K .normal) ([(0, true), (1, true), (2, true), (3, true), (4, true), (5, true), (6, true), (7, true), (8, true), (9, true), (10, true), (11, true)] ++ ([(13, true), (14, true), (15, true), (16, true), (17, true), (18, true), (19, true), (20, true), (21, true), (22, true), (23, true), (24, true)] ++ [(12, false), (25, false), (26, false), (27, true)])) ρ { w with drawn := w.drawn + 1 } = _
    rw [sxh_append, sxh_append, dispatcherlaw14_PostedMay_R6_q2, dispatcherlaw14_PostedMay_R6_q1, dispatcherlaw14_PostedMay_R6_q0]; rfl
  rw [e]
  exact W_held S [(0, true), (1, true), (2, true), (3, true), (4, true), (5, true), (6, true), (7, true), (8, true), (9, true), (10, true), (11, true), (13, true), (14, true), (15, true), (16, true), (17, true), (18, true), (19, true), (20, true), (21, true), (22, true), (23, true), (24, true), (12, false), (25, false), (26, false), (27, true)] (by kernel_rfl) (by kernel_rfl) dispatcherlaw14_PostedMay_R6_steps (by kernel_rfl) hS (Eq.mpr q h)
noncomputable def dispatcherlaw14_PostedMay_R7_F (z : At) (K : Exit → Sl → World → Prop) (ρ : Sl) (w : World) : Prop :=
  CondK (ρ 91) (K .ret (up ρ 4 (Value.bool false)) w) (K .normal ρ w)
theorem dispatcherlaw14_PostedMay_R7_eq (z : At) (K : Exit → Sl → World → Prop) (ρ : Sl) (w : World) : sx z Try.prog 128 dispatcherlaw14_PostedMay_R7 K ρ w = dispatcherlaw14_PostedMay_R7_F z K ρ w := by kernel_rfl
noncomputable def dispatcherlaw14_PostedMay_R8_F (z : At) (K : Exit → Sl → World → Prop) (ρ : Sl) (w : World) : Prop :=
  BK Try.prog .add 3 (.tmp 52) (.const (Value.int .i64 1)) (ρ 7) (Value.int .i64 1) w fun x53 w => K .normal (up (up (up ρ 52 (ρ 7)) 53 x53) 7 x53) w
theorem dispatcherlaw14_PostedMay_R8_eq (z : At) (K : Exit → Sl → World → Prop) (ρ : Sl) (w : World) : sx z Try.prog 128 dispatcherlaw14_PostedMay_R8 K ρ w = dispatcherlaw14_PostedMay_R8_F z K ρ w := by kernel_rfl
noncomputable def dispatcherlaw14_PostedMay_R9_ops : Array Oper := opsOf dispatcherlaw14_PostedMay_R9
noncomputable def dispatcherlaw14_PostedMay_R10_F (z : At) (K : Exit → Sl → World → Prop) (ρ : Sl) (w : World) : Prop :=
  K .ret ρ w
theorem dispatcherlaw14_PostedMay_R10_eq (z : At) (K : Exit → Sl → World → Prop) (ρ : Sl) (w : World) : sx z Try.prog 128 dispatcherlaw14_PostedMay_R10 K ρ w = dispatcherlaw14_PostedMay_R10_F z K ρ w := by kernel_rfl
noncomputable def dispatcherlaw14_PostedMay_F (a0 a1 : Value) (w : World) (R : Value → World → Prop) : Prop :=
  VK Try.prog (Instr.box 24 a1) w fun x3 w => CK Try.prog (Value.func (Fn.func 11) #[] #[]) [a0] w fun x10 w => VG Try.prog x10 false (Instr.fieldAt 24 x3 0) w fun x12 w => VG Try.prog x10 false (Instr.loadAt 9 x12) w fun x13 w => IG Try.prog x10 false .len #[9] 3 [false] [x13] w fun x14 w => BG Try.prog x10 false .gtr 3 (.tmp 14) (.const (Value.int .i64 100)) x14 (Value.int .i64 100) w fun x15 w => PK Try.prog x10 (Value.bool true) x15 w fun x16 w => CondK x16 (R (Value.bool true) w) (CK Try.prog (Value.func (Fn.func 29) #[] #[]) [] w fun x17 w => NK Try.prog x17 w fun x19 w => VK Try.prog (Instr.fieldAt 69 x19 0) w fun x20 w => VK Try.prog (Instr.loadAt 27 x20) w fun x21 w => BK Try.prog .eql 27 (.tmp 21) (.const (Value.pointer none)) x21 (Value.pointer none) w fun x22 w => MG Try.prog x22 false x17 w fun x24 w => NG Try.prog x22 false x24 w fun x25 w => VG Try.prog x22 false (Instr.fieldAt 69 x25 1) w fun x26 w => VG Try.prog x22 false (Instr.loadAt 28 x26) w fun x27 w => BG Try.prog x22 false .eql 28 (.tmp 27) (.const (Value.pointer none)) x27 (Value.pointer none) w fun x28 w => PK Try.prog x22 (Value.bool true) x28 w fun x29 w => sx fn_ Try.prog 128 dispatcherlaw14_PostedMay_R0 (seqK (sx fn_ Try.prog 128 dispatcherlaw14_PostedMay_R1 (retK Try.prog [ResultVar.tmp 4] R)) (retK Try.prog [ResultVar.tmp 4] R)) (up (up (up (up (up (up (up (up (up (up (up (up (up (up (up (up (up (up (up (up (up (up (up (up (rho0 [a0, a1]) 3 x3) 4 (Value.bool false)) 9 a0) 10 x10) 11 x10) 12 x12) 13 x13) 14 x14) 15 x15) 16 x16) 17 x17) 5 x17) 18 x17) 19 x19) 20 x20) 21 x21) 22 x22) 23 x22) 24 x24) 25 x25) 26 x26) 27 x27) 28 x28) 29 x29) w)
theorem dispatcherlaw14_PostedMay_eq (a0 a1 : Value) (w : World) (R : Value → World → Prop) : sx fn_ Try.prog 128 dispatcherlaw14_PostedMay_b (retK Try.prog Try.f8.results.toList R) (rho0 [a0, a1]) w = dispatcherlaw14_PostedMay_F a0 a1 w R := by kernel_rfl
theorem dispatcherlaw14_PostedMay_calls {a0 a1 : Value} {w : World} {R : Value → World → Prop} (h : dispatcherlaw14_PostedMay_F a0 a1 w R) : Calls Try.prog 8 #[a0, a1] w fun e w' => ∃ v, e = .returned v ∧ R v w' :=
  Go.X.calls_of_sx (n := 128) (c := dispatcherlaw14_PostedMay_b) Try.func8 (by kernel_rfl) (by kernel_rfl) (Nat.le_of_ble_eq_true rfl) (by kernel_rfl) (Eq.mpr (dispatcherlaw14_PostedMay_eq a0 a1 w R) h)
noncomputable def dispatcherlaw14_Great_b : Code := (Try.f11.body).getD .skip
noncomputable def dispatcherlaw14_Great_L0 : Code := cAt [1, 1, 0, 1, 0, 0] dispatcherlaw14_Great_b
noncomputable def dispatcherlaw14_Great_R1 : Code := cAt [1, 1, 1] dispatcherlaw14_Great_b
noncomputable def dispatcherlaw14_Great_L0_F (z : At) (K : Exit → Sl → World → Prop) (ρ : Sl) (w : World) : Prop :=
  IK Try.prog .len #[22] 3 [false] [(ρ 0)] w fun x9 w => BK Try.prog .lss 3 (.tmp 7) (.tmp 9) (ρ 3) x9 w fun x10 w => CondK x10 (VK Try.prog (Instr.indexAt 22 (ρ 0) (ρ 3)) w fun x15 w => VK Try.prog (Instr.fieldAt 48 x15 1) w fun x16 w => VK Try.prog (Instr.fieldAt 39 x16 0) w fun x17 w => VK Try.prog (Instr.loadAt 9 x17) w fun x18 w => IK Try.prog .len #[9] 3 [false] [x18] w fun x19 w => BK Try.prog .gtr 3 (.tmp 19) (.const (Value.int .i64 100)) x19 (Value.int .i64 100) w fun x20 w => MG Try.prog x20 false (ρ 0) w fun x22 w => MG Try.prog x20 false (ρ 3) w fun x23 w => VG Try.prog x20 false (Instr.indexAt 22 x22 x23) w fun x24 w => VG Try.prog x20 false (Instr.fieldAt 48 x24 2) w fun x25 w => VG Try.prog x20 false (Instr.fieldAt 24 x25 0) w fun x26 w => VG Try.prog x20 false (Instr.loadAt 9 x26) w fun x27 w => IG Try.prog x20 false .len #[9] 3 [false] [x27] w fun x28 w => BG Try.prog x20 false .gtr 3 (.tmp 28) (.const (Value.int .i64 100)) x28 (Value.int .i64 100) w fun x29 w => PK Try.prog x20 (Value.bool true) x29 w fun x30 w => CondK x30 (K .ret (up (up (up (up (up (up (up (up (up (up (up (up (up (up (up (up (up (up (up (up (up (up (up ρ 7 (ρ 3)) 8 (ρ 0)) 9 x9) 10 x10) 13 (ρ 0)) 14 (ρ 3)) 15 x15) 16 x16) 17 x17) 18 x18) 19 x19) 20 x20) 21 x20) 22 x22) 23 x23) 24 x24) 25 x25) 26 x26) 27 x27) 28 x28) 29 x29) 30 x30) 2 (Value.bool true)) w) (BK Try.prog .add 3 (.tmp 11) (.const (Value.int .i64 1)) (ρ 3) (Value.int .i64 1) w fun x12 w => K .normal (up (up (up (up (up (up (up (up (up (up (up (up (up (up (up (up (up (up (up (up (up (up (up (up (up ρ 7 (ρ 3)) 8 (ρ 0)) 9 x9) 10 x10) 13 (ρ 0)) 14 (ρ 3)) 15 x15) 16 x16) 17 x17) 18 x18) 19 x19) 20 x20) 21 x20) 22 x22) 23 x23) 24 x24) 25 x25) 26 x26) 27 x27) 28 x28) 29 x29) 30 x30) 11 (ρ 3)) 12 x12) 3 x12) w)) (K (.exit 0) (up (up (up (up ρ 7 (ρ 3)) 8 (ρ 0)) 9 x9) 10 x10) w)
theorem dispatcherlaw14_Great_L0_eq (z : At) (K : Exit → Sl → World → Prop) (ρ : Sl) (w : World) : sx z Try.prog 31 dispatcherlaw14_Great_L0 K ρ w = dispatcherlaw14_Great_L0_F z K ρ w := by kernel_rfl
theorem dispatcherlaw14_Great_L0_ok : dstOk 31 dispatcherlaw14_Great_L0 = true := by kernel_rfl
noncomputable def dispatcherlaw14_Great_R1_F (z : At) (K : Exit → Sl → World → Prop) (ρ : Sl) (w : World) : Prop :=
  K .ret (up ρ 2 (Value.bool false)) w
theorem dispatcherlaw14_Great_R1_eq (z : At) (K : Exit → Sl → World → Prop) (ρ : Sl) (w : World) : sx z Try.prog 31 dispatcherlaw14_Great_R1 K ρ w = dispatcherlaw14_Great_R1_F z K ρ w := by kernel_rfl
noncomputable def dispatcherlaw14_Great_F (a0 : Value) (w : World) (R : Value → World → Prop) : Prop :=
  IK Try.prog .len #[22] 3 [false] [a0] w fun x5 w => BK Try.prog .gtr 3 (.tmp 5) (.const (Value.int .i64 120)) x5 (Value.int .i64 120) w fun x6 w => CondK x6 (R (Value.bool true) w) (W fn_ Try.prog 31 (Code.loop dispatcherlaw14_Great_L0) (blkK 0 (seqK (sx fn_ Try.prog 31 dispatcherlaw14_Great_R1 (retK Try.prog [ResultVar.tmp 2] R)) (retK Try.prog [ResultVar.tmp 2] R))) (up (up (up (up (up (rho0 [a0]) 2 (Value.bool false)) 4 a0) 5 x5) 6 x6) 3 (Value.int .i64 0)) w)
theorem dispatcherlaw14_Great_eq (a0 : Value) (w : World) (R : Value → World → Prop) : sx fn_ Try.prog 31 dispatcherlaw14_Great_b (retK Try.prog Try.f11.results.toList R) (rho0 [a0]) w = dispatcherlaw14_Great_F a0 w R := by kernel_rfl
theorem dispatcherlaw14_Great_calls {a0 : Value} {w : World} {R : Value → World → Prop} (h : dispatcherlaw14_Great_F a0 w R) : Calls Try.prog 11 #[a0] w fun e w' => ∃ v, e = .returned v ∧ R v w' :=
  Go.X.calls_of_sx (n := 31) (c := dispatcherlaw14_Great_b) Try.func11 (by kernel_rfl) (by kernel_rfl) (Nat.le_of_ble_eq_true rfl) (by kernel_rfl) (Eq.mpr (dispatcherlaw14_Great_eq a0 w R) h)
noncomputable def posted_Posted_Probe_b : Code := (Try.f13.body).getD .skip
noncomputable def posted_Posted_Probe_R0 : Code := cAt [1, 1, 0] posted_Posted_Probe_b
noncomputable def posted_Posted_Probe_R1 : Code := cAt [1, 1, 1] posted_Posted_Probe_b
noncomputable def posted_Posted_Probe_R0_ops : Array Oper := opsOf posted_Posted_Probe_R0
def posted_Posted_Probe_R0_H (S : World → Prop) (K : Exit → Sl → World → Prop) (ρ : Sl) (w : World) : Prop :=
  HK Try.prog S (do pure (Next.value (← Instr.loadAt 24 (ρ 5)))) fun x17_2 => HK Try.prog S (do pure (Next.value (← Instr.fieldAt 24 (ρ 5) 1))) fun x19_2 => HK Try.prog S (do pure (Next.value (← Instr.loadAt 3 x19_2))) fun x20_2 => CK Try.prog (Value.func (Fn.func 40) #[] #[]) [(ρ 0), x20_2] w fun x21_2 w => S w ∧ (CK Try.prog (Value.func (Fn.func 39) #[] #[]) [(ρ 1), x17_2, x21_2] w fun x22_2 w => S w ∧ (K Exit.normal (up (up (up (up (up (up (up (up ρ 16 (ρ 1)) 17 x17_2) 18 (ρ 0)) 19 x19_2) 20 x20_2) 21 x21_2) 22 x22_2) 6 x22_2) w))
theorem posted_Posted_Probe_R0_held {D : List Deferred} (S : World → Prop) {K : Exit → Sl → World → Prop} {ρ : Sl} {w : World} (hS : S { w with drawn := w.drawn + 1 }) (h : posted_Posted_Probe_R0_H S K ρ { w with drawn := w.drawn + 1 }) : W ⟨none, D⟩ Try.prog 23 posted_Posted_Probe_R0 K ρ w := by
  have e : posted_Posted_Probe_R0 = .region (idOf posted_Posted_Probe_R0) posted_Posted_Probe_R0_ops true := by kernel_rfl
  have q : sxh Try.prog S posted_Posted_Probe_R0_ops (K .normal) [(0, true), (1, true), (2, true), (3, true), (4, true), (5, false), (6, false), (7, true)] ρ { w with drawn := w.drawn + 1 } = posted_Posted_Probe_R0_H S K ρ { w with drawn := w.drawn + 1 } := by kernel_rfl
  rw [e]
  exact W_held S [(0, true), (1, true), (2, true), (3, true), (4, true), (5, false), (6, false), (7, true)] (by kernel_rfl) (by kernel_rfl) (by kernel_rfl) (by kernel_rfl) hS (Eq.mpr q h)
noncomputable def posted_Posted_Probe_R1_F (z : At) (K : Exit → Sl → World → Prop) (ρ : Sl) (w : World) : Prop :=
  K .ret ρ w
theorem posted_Posted_Probe_R1_eq (z : At) (K : Exit → Sl → World → Prop) (ρ : Sl) (w : World) : sx z Try.prog 23 posted_Posted_Probe_R1 K ρ w = posted_Posted_Probe_R1_F z K ρ w := by kernel_rfl
noncomputable def posted_Posted_Probe_F (a0 a1 a2 : Value) (w : World) (R : Value → World → Prop) : Prop :=
  VK Try.prog (Instr.box 24 a2) w fun x5 w => BK Try.prog .eql 28 (.tmp 7) (.const (Value.pointer none)) a0 (Value.pointer none) w fun x8 w => MG Try.prog x8 false a0 w fun x10 w => NG Try.prog x8 false x10 w fun x11 w => VG Try.prog x8 false (Instr.fieldAt 61 x11 0) w fun x12 w => VG Try.prog x8 false (Instr.loadAt 4 x12) w fun x13 w => VG Try.prog x8 false (Op.unary UnOp.not x13) w fun x14 w => PK Try.prog x8 (Value.bool true) x14 w fun x15 w => CondK x15 (R (Value.slice none 0 0) w) (W fn_ Try.prog 23 posted_Posted_Probe_R0 (seqK (sx fn_ Try.prog 23 posted_Posted_Probe_R1 (retK Try.prog [ResultVar.tmp 6] R)) (retK Try.prog [ResultVar.tmp 6] R)) (up (up (up (up (up (up (up (up (up (up (up (rho0 [a0, a1, a2]) 5 x5) 6 (Value.slice none 0 0)) 7 a0) 8 x8) 9 x8) 10 x10) 11 x11) 12 x12) 13 x13) 14 x14) 15 x15) w)
theorem posted_Posted_Probe_eq (a0 a1 a2 : Value) (w : World) (R : Value → World → Prop) : sx fn_ Try.prog 23 posted_Posted_Probe_b (retK Try.prog Try.f13.results.toList R) (rho0 [a0, a1, a2]) w = posted_Posted_Probe_F a0 a1 a2 w R := by kernel_rfl
theorem posted_Posted_Probe_calls {a0 a1 a2 : Value} {w : World} {R : Value → World → Prop} (h : posted_Posted_Probe_F a0 a1 a2 w R) : Calls Try.prog 13 #[a0, a1, a2] w fun e w' => ∃ v, e = .returned v ∧ R v w' :=
  Go.X.calls_of_sx (n := 23) (c := posted_Posted_Probe_b) Try.func13 (by kernel_rfl) (by kernel_rfl) (Nat.le_of_ble_eq_true rfl) (by kernel_rfl) (Eq.mpr (posted_Posted_Probe_eq a0 a1 a2 w R) h)
noncomputable def posted_Posted_Post_b : Code := (Try.f14.body).getD .skip
noncomputable def posted_Posted_Post_R0 : Code := cAt [1, 1, 1, 0, 0] posted_Posted_Post_b
noncomputable def posted_Posted_Post_R1 : Code := cAt [1, 1, 1, 0, 1] posted_Posted_Post_b
noncomputable def posted_Posted_Post_R2 : Code := cAt [1, 1, 1, 1] posted_Posted_Post_b
noncomputable def posted_Posted_Post_R3 : Code := cAt [1, 1, 1, 1, 1, 0] posted_Posted_Post_b
noncomputable def posted_Posted_Post_R4 : Code := cAt [1, 1, 1, 1, 1, 1] posted_Posted_Post_b
noncomputable def posted_Posted_Post_R0_ops : Array Oper := opsOf posted_Posted_Post_R0
def posted_Posted_Post_R0_Q (C : World → Prop) (K : Exit → Sl → World → Prop) (ρ : Sl) : Prop :=
  QK Try.prog C (do pure (Next.value (← Instr.fieldAt 24 (ρ 3) 1))) fun x19 => QK Try.prog C (do pure (Next.value (← Instr.loadAt 3 x19))) fun x20 => QK Try.prog C (do let d ← Deferred.ofValue (Value.func (Fn.func 41) #[] #[]) [x20, (Value.int IntKind.i64 0), (Value.int IntKind.i64 63)].toArray; invoke d.target d.args) fun x21 => QK Try.prog C (do pure (Next.value (← Op.unary UnOp.not x21))) fun x22 => QG Try.prog C x22 false  (do pure (Next.value (← Instr.fieldAt 24 (ρ 3) 3))) fun x24 => QG Try.prog C x22 false  (do pure (Next.value (← Instr.loadAt 3 x24))) fun x25 => QG Try.prog C x22 false  (do let d ← Deferred.ofValue (Value.func (Fn.func 41) #[] #[]) [x25, (Value.int IntKind.i64 (-1)), (Value.int IntKind.i64 63)].toArray; invoke d.target d.args) fun x26 => QG Try.prog C x22 false  (do pure (Next.value (← Op.unary UnOp.not x26))) fun x27 => QK Try.prog C (do pure (Next.value (if ← asBool x22 then (Value.bool true) else x27))) fun x28 => QG Try.prog C x28 false  (do pure (Next.value (← Instr.fieldAt 24 (ρ 3) 4))) fun x30 => QG Try.prog C x28 false  (do pure (Next.value (← Instr.loadAt 3 x30))) fun x31 => QG Try.prog C x28 false  (do let d ← Deferred.ofValue (Value.func (Fn.func 41) #[] #[]) [x31, (Value.int IntKind.i64 (-1)), (Value.int IntKind.i64 32767)].toArray; invoke d.target d.args) fun x32 => QG Try.prog C x28 false  (do pure (Next.value (← Op.unary UnOp.not x32))) fun x33 => QK Try.prog C (do pure (Next.value (if ← asBool x28 then (Value.bool true) else x33))) fun x34 => QG Try.prog C x34 false  (do pure (Next.value (← Instr.fieldAt 24 (ρ 3) 5))) fun x36 => QG Try.prog C x34 false  (do pure (Next.value (← Instr.loadAt 3 x36))) fun x37 => QG Try.prog C x34 false  (do pure (Next.value (← (do eqGuard BinOp.lss 3 (Operand.tmp 37) (Operand.const (Value.int IntKind.i64 (-1))) x37 (Value.int IntKind.i64 (-1)); binOp BinOp.lss 3 x37 (Value.int IntKind.i64 (-1)))))) fun x38 => QK Try.prog C (do pure (Next.value (if ← asBool x34 then (Value.bool true) else x38))) fun x39 => QG Try.prog C x39 false  (do pure (Next.value (← Instr.fieldAt 24 (ρ 3) 2))) fun x41 => QG Try.prog C x39 false  (do pure (Next.value (← Instr.loadAt 3 x41))) fun x42 => QG Try.prog C x39 false  (do pure (Next.value (← (do eqGuard BinOp.lss 3 (Operand.tmp 42) (Operand.const (Value.int IntKind.i64 0)) x42 (Value.int IntKind.i64 0); binOp BinOp.lss 3 x42 (Value.int IntKind.i64 0))))) fun x43 => QK Try.prog C (do pure (Next.value (if ← asBool x39 then (Value.bool true) else x43))) fun x44 => QG Try.prog C x44 false  (pure (Next.value (ρ 5))) fun x46 => QG Try.prog C x44 false  (builtin Builtin.len #[41] 3 [false].toArray [x46].toArray) fun x47 => QG Try.prog C x44 false  (do pure (Next.value (← (do eqGuard BinOp.gtr 3 (Operand.tmp 47) (Operand.const (Value.int IntKind.i64 0)) x47 (Value.int IntKind.i64 0); binOp BinOp.gtr 3 x47 (Value.int IntKind.i64 0))))) fun x48 => QG Try.prog C x44 false  (pure (Next.value x48)) fun x49 => QG Try.prog C x49 true  (do pure (Next.value (← Instr.fieldAt 24 (ρ 3) 2))) fun x50 => QG Try.prog C x49 true  (do pure (Next.value (← Instr.loadAt 3 x50))) fun x51 => QG Try.prog C x49 true  (pure (Next.value (ρ 5))) fun x52 => QG Try.prog C x49 true  (pure (Next.value (ρ 5))) fun x53 => QG Try.prog C x49 true  (builtin Builtin.len #[41] 3 [false].toArray [x53].toArray) fun x54 => QG Try.prog C x49 true  (do pure (Next.value (← (do eqGuard BinOp.sub 3 (Operand.tmp 54) (Operand.const (Value.int IntKind.i64 1)) x54 (Value.int IntKind.i64 1); binOp BinOp.sub 3 x54 (Value.int IntKind.i64 1))))) fun x55 => QG Try.prog C x49 true  (do pure (Next.value (← Instr.indexAt 41 x52 x55))) fun x56 => QG Try.prog C x49 true  (do pure (Next.value (← Instr.fieldAt 24 x56 2))) fun x57 => QG Try.prog C x49 true  (do pure (Next.value (← Instr.loadAt 3 x57))) fun x58 => QG Try.prog C x49 true  (do pure (Next.value (← (do eqGuard BinOp.leq 3 (Operand.tmp 51) (Operand.tmp 58) x51 x58; binOp BinOp.leq 3 x51 x58)))) fun x59 => QG Try.prog C x44 false  (do pure (Next.value (if ← asBool x49 then x59 else (Value.bool false)))) fun x60 => QK Try.prog C (do pure (Next.value (if ← asBool x44 then (Value.bool true) else x60))) fun x61 => ∀ w', C w' → K Exit.normal (up (up (up (up (up (up (up (up (up (up (up (up (up (up (up (up (up (up (up (up (up (up (up (up (up (up (up (up (up (up (up (up (up (up (up (up (up (up (up (up (up (up (up ρ 19 x19) 20 x20) 21 x21) 22 x22) 23 x22) 24 x24) 25 x25) 26 x26) 27 x27) 28 x28) 29 x28) 30 x30) 31 x31) 32 x32) 33 x33) 34 x34) 35 x34) 36 x36) 37 x37) 38 x38) 39 x39) 40 x39) 41 x41) 42 x42) 43 x43) 44 x44) 45 x44) 46 x46) 47 x47) 48 x48) 49 x49) 50 x50) 51 x51) 52 x52) 53 x53) 54 x54) 55 x55) 56 x56) 57 x57) 58 x58) 59 x59) 60 x60) 61 x61) w'
theorem posted_Posted_Post_R0_quiet {D : List Deferred} (C : World → Prop) {K : Exit → Sl → World → Prop} {ρ : Sl} {w : World} (hC : C { w with drawn := w.drawn + 1 }) (h : posted_Posted_Post_R0_Q C K ρ) : W ⟨none, D⟩ Try.prog 75 posted_Posted_Post_R0 K ρ w := by
  have e : posted_Posted_Post_R0 = .region (idOf posted_Posted_Post_R0) posted_Posted_Post_R0_ops true := by kernel_rfl
  have q : sxq Try.prog C posted_Posted_Post_R0_ops (fun ρ' => ∀ w', C w' → K .normal ρ' w') posted_Posted_Post_R0_ops.toList ρ = posted_Posted_Post_R0_Q C K ρ := by kernel_rfl
  rw [e]
  exact W_quiet C (by kernel_rfl) (by kernel_rfl) (by kernel_rfl) hC (Eq.mpr q h)
noncomputable def posted_Posted_Post_R1_F (z : At) (K : Exit → Sl → World → Prop) (ρ : Sl) (w : World) : Prop :=
  CondK (ρ 61) (K .ret (up ρ 4 (Value.int .i64 2)) w) (K .normal ρ w)
theorem posted_Posted_Post_R1_eq (z : At) (K : Exit → Sl → World → Prop) (ρ : Sl) (w : World) : sx z Try.prog 75 posted_Posted_Post_R1 K ρ w = posted_Posted_Post_R1_F z K ρ w := by kernel_rfl
noncomputable def posted_Posted_Post_R2_F (z : At) (K : Exit → Sl → World → Prop) (ρ : Sl) (w : World) : Prop :=
  VK Try.prog (Instr.fieldAt 24 (ρ 3) 6) w fun x62 w => UK Try.prog (Instr.storeAt 4 x62 (Value.bool false)) w fun _ w => VK Try.prog (Instr.fieldAt 24 (ρ 3) 7) w fun x63 w => UK Try.prog (Instr.storeAt 3 x63 (Value.int .i64 0)) w fun _ w => VK Try.prog (Instr.fieldAt 24 (ρ 3) 8) w fun x64 w => UK Try.prog (Instr.storeAt 3 x64 (Value.int .i64 0)) w fun _ w => W z Try.prog 75 posted_Posted_Post_R3 (seqK (sx z Try.prog 75 posted_Posted_Post_R4 K) K) (up (up (up ρ 62 x62) 63 x63) 64 x64) w
theorem posted_Posted_Post_R2_eq (z : At) (K : Exit → Sl → World → Prop) (ρ : Sl) (w : World) : sx z Try.prog 75 posted_Posted_Post_R2 K ρ w = posted_Posted_Post_R2_F z K ρ w := by kernel_rfl
noncomputable def posted_Posted_Post_R3_ops : Array Oper := opsOf posted_Posted_Post_R3
def posted_Posted_Post_R3_H (S : World → Prop) (K : Exit → Sl → World → Prop) (ρ : Sl) (w : World) : Prop :=
  HK Try.prog S (do pure (Next.value (← Instr.fieldAt 24 (ρ 3) 1))) fun x66 => HK Try.prog S (do pure (Next.value (← Instr.loadAt 3 x66))) fun x67 => HK Try.prog S (do pure (Next.value (← Instr.loadAt 24 (ρ 3)))) fun x69 => HK Try.prog S (nilCk (ρ 0)) fun x72 => HK Try.prog S (do pure (Next.value (← Instr.fieldAt 61 x72 1))) fun x73 => VK Try.prog (Instr.buildSlice 41 1 [(0, x69)].toArray) w fun x70 w => S w ∧ (IK Try.prog Builtin.append #[41, 41] 41 [false, false] [(ρ 5), x70] w fun x71 w => S w ∧ (HK Try.prog S (do pure (Next.value (← Instr.indexAt 59 x73 x67))) fun x74 => UK Try.prog (Instr.storeAt 41 x74 x71) w fun _ w => S w ∧ (K Exit.normal (up (up (up (up (up (up (up (up (up (up ρ 65 (ρ 0)) 66 x66) 67 x67) 68 (ρ 5)) 69 x69) 72 x72) 73 x73) 70 x70) 71 x71) 74 x74) w)))
theorem posted_Posted_Post_R3_held {D : List Deferred} (S : World → Prop) {K : Exit → Sl → World → Prop} {ρ : Sl} {w : World} (hS : S { w with drawn := w.drawn + 1 }) (h : posted_Posted_Post_R3_H S K ρ { w with drawn := w.drawn + 1 }) : W ⟨none, D⟩ Try.prog 75 posted_Posted_Post_R3 K ρ w := by
  have e : posted_Posted_Post_R3 = .region (idOf posted_Posted_Post_R3) posted_Posted_Post_R3_ops true := by kernel_rfl
  have q : sxh Try.prog S posted_Posted_Post_R3_ops (K .normal) [(0, true), (1, true), (2, true), (3, true), (4, true), (7, true), (8, true), (5, false), (6, false), (9, true), (10, false)] ρ { w with drawn := w.drawn + 1 } = posted_Posted_Post_R3_H S K ρ { w with drawn := w.drawn + 1 } := by kernel_rfl
  rw [e]
  exact W_held S [(0, true), (1, true), (2, true), (3, true), (4, true), (7, true), (8, true), (5, false), (6, false), (9, true), (10, false)] (by kernel_rfl) (by kernel_rfl) (by kernel_rfl) (by kernel_rfl) hS (Eq.mpr q h)
noncomputable def posted_Posted_Post_R4_F (z : At) (K : Exit → Sl → World → Prop) (ρ : Sl) (w : World) : Prop :=
  K .ret (up ρ 4 (Value.int .i64 0)) w
theorem posted_Posted_Post_R4_eq (z : At) (K : Exit → Sl → World → Prop) (ρ : Sl) (w : World) : sx z Try.prog 75 posted_Posted_Post_R4 K ρ w = posted_Posted_Post_R4_F z K ρ w := by kernel_rfl
noncomputable def posted_Posted_Post_F (a0 a1 : Value) (w : World) (R : Value → World → Prop) : Prop :=
  VK Try.prog (Instr.box 24 a1) w fun x3 w => BK Try.prog .eql 28 (.tmp 6) (.const (Value.pointer none)) a0 (Value.pointer none) w fun x7 w => MG Try.prog x7 false a0 w fun x9 w => NG Try.prog x7 false x9 w fun x10 w => VG Try.prog x7 false (Instr.fieldAt 61 x10 0) w fun x11 w => VG Try.prog x7 false (Instr.loadAt 4 x11) w fun x12 w => VG Try.prog x7 false (Op.unary UnOp.not x12) w fun x13 w => PK Try.prog x7 (Value.bool true) x13 w fun x14 w => CondK x14 (R (Value.int .i64 1) w) (VK Try.prog (Instr.fieldAt 24 x3 1) w fun x16 w => VK Try.prog (Instr.loadAt 3 x16) w fun x17 w => CK Try.prog (Value.func (Fn.func 40) #[] #[]) [a0, x17] w fun x18 w => W fn_ Try.prog 75 posted_Posted_Post_R0 (seqK (sx fn_ Try.prog 75 posted_Posted_Post_R1 (seqK (sx fn_ Try.prog 75 posted_Posted_Post_R2 (retK Try.prog [ResultVar.tmp 4] R)) (retK Try.prog [ResultVar.tmp 4] R))) (seqK (sx fn_ Try.prog 75 posted_Posted_Post_R2 (retK Try.prog [ResultVar.tmp 4] R)) (retK Try.prog [ResultVar.tmp 4] R))) (up (up (up (up (up (up (up (up (up (up (up (up (up (up (up (up (rho0 [a0, a1]) 3 x3) 4 (Value.int .i64 0)) 6 a0) 7 x7) 8 x7) 9 x9) 10 x10) 11 x11) 12 x12) 13 x13) 14 x14) 15 a0) 16 x16) 17 x17) 18 x18) 5 x18) w)
theorem posted_Posted_Post_eq (a0 a1 : Value) (w : World) (R : Value → World → Prop) : sx fn_ Try.prog 75 posted_Posted_Post_b (retK Try.prog Try.f14.results.toList R) (rho0 [a0, a1]) w = posted_Posted_Post_F a0 a1 w R := by kernel_rfl
theorem posted_Posted_Post_calls {a0 a1 : Value} {w : World} {R : Value → World → Prop} (h : posted_Posted_Post_F a0 a1 w R) : Calls Try.prog 14 #[a0, a1] w fun e w' => ∃ v, e = .returned v ∧ R v w' :=
  Go.X.calls_of_sx (n := 75) (c := posted_Posted_Post_b) Try.func14 (by kernel_rfl) (by kernel_rfl) (Nat.le_of_ble_eq_true rfl) (by kernel_rfl) (Eq.mpr (posted_Posted_Post_eq a0 a1 w R) h)
noncomputable def posted_Posted_May_b : Code := (Try.f16.body).getD .skip
noncomputable def posted_Posted_May_R0 : Code := cAt [1, 1, 1, 1, 1, 0] posted_Posted_May_b
noncomputable def posted_Posted_May_R1 : Code := cAt [1, 1, 1, 1, 1, 1] posted_Posted_May_b
noncomputable def posted_Posted_May_R0_ops : Array Oper := opsOf posted_Posted_May_R0
def posted_Posted_May_R0_T (K : Exit → Sl → World → Prop) (ρ : Sl) (w : World) : Prop :=
  let C : World → Prop := fun w' => w' = w; QK Try.prog C (do pure (Next.value (← Instr.indexAt 41 (ρ 10) (ρ 9)))) fun x28_1 => QK Try.prog C (do pure (Next.value (← Instr.loadAt 24 x28_1))) fun x29_1 => QK Try.prog C (do pure (Next.value (← Instr.sliceAt 41 (ρ 10) none (some (ρ 9)) none))) fun x32_1 => CK Try.prog (Value.func (Fn.func 39) #[] #[]) [(ρ 1), x29_1, x32_1] w fun x33_1 w => K Exit.normal (up (up (up (up (up (up (up (up (up (up ρ 25 (ρ 1)) 26 (ρ 10)) 27 (ρ 9)) 28 x28_1) 29 x29_1) 30 (ρ 10)) 31 (ρ 9)) 32 x32_1) 33 x33_1) 8 x33_1) w
theorem posted_Posted_May_R0_tail {D : List Deferred} {K : Exit → Sl → World → Prop} {ρ : Sl} {w : World} (h : posted_Posted_May_R0_T K ρ { w with drawn := w.drawn + 1 }) : W ⟨none, D⟩ Try.prog 34 posted_Posted_May_R0 K ρ w := by
  have e : posted_Posted_May_R0 = .region (idOf posted_Posted_May_R0) posted_Posted_May_R0_ops true := by kernel_rfl
  have q : sxq Try.prog (fun w' => w' = { w with drawn := w.drawn + 1 }) posted_Posted_May_R0_ops (fun ρ' => sxL Try.prog posted_Posted_May_R0_ops (K .normal) (posted_Posted_May_R0_ops.toList.drop 8) ρ' { w with drawn := w.drawn + 1 }) (posted_Posted_May_R0_ops.toList.take 8) ρ = posted_Posted_May_R0_T K ρ { w with drawn := w.drawn + 1 } := by kernel_rfl
  rw [e]
  exact W_tail 8 (by kernel_rfl) (by kernel_rfl) (by kernel_rfl) (by kernel_rfl) (Eq.mpr q h)
noncomputable def posted_Posted_May_R1_F (z : At) (K : Exit → Sl → World → Prop) (ρ : Sl) (w : World) : Prop :=
  K .ret ρ w
theorem posted_Posted_May_R1_eq (z : At) (K : Exit → Sl → World → Prop) (ρ : Sl) (w : World) : sx z Try.prog 34 posted_Posted_May_R1 K ρ w = posted_Posted_May_R1_F z K ρ w := by kernel_rfl
noncomputable def posted_Posted_May_F (a0 a1 a2 a3 : Value) (w : World) (R : Value → World → Prop) : Prop :=
  CK Try.prog (Value.func (Fn.func 42) #[] #[]) [a0, a2, a3] w fun x14 w => BK Try.prog .lss 3 (.tmp 15) (.const (Value.int .i64 0)) x14 (Value.int .i64 0) w fun x16 w => CondK x16 (R (Value.slice none 0 0) w) (CK Try.prog (Value.func (Fn.func 40) #[] #[]) [a0, a2] w fun x19 w => VK Try.prog (Instr.indexAt 41 x19 x14) w fun x22 w => VK Try.prog (Instr.fieldAt 24 x22 6) w fun x23 w => VK Try.prog (Instr.loadAt 4 x23) w fun x24 w => CondK x24 (R (Value.slice none 0 0) w) (W fn_ Try.prog 34 posted_Posted_May_R0 (seqK (sx fn_ Try.prog 34 posted_Posted_May_R1 (retK Try.prog [ResultVar.tmp 8] R)) (retK Try.prog [ResultVar.tmp 8] R)) (up (up (up (up (up (up (up (up (up (up (up (up (up (up (up (up (up (rho0 [a0, a1, a2, a3]) 8 (Value.slice none 0 0)) 11 a0) 12 a2) 13 a3) 14 x14) 9 x14) 15 x14) 16 x16) 17 a0) 18 a2) 19 x19) 10 x19) 20 x19) 21 x14) 22 x22) 23 x23) 24 x24) w))
theorem posted_Posted_May_eq (a0 a1 a2 a3 : Value) (w : World) (R : Value → World → Prop) : sx fn_ Try.prog 34 posted_Posted_May_b (retK Try.prog Try.f16.results.toList R) (rho0 [a0, a1, a2, a3]) w = posted_Posted_May_F a0 a1 a2 a3 w R := by kernel_rfl
theorem posted_Posted_May_calls {a0 a1 a2 a3 : Value} {w : World} {R : Value → World → Prop} (h : posted_Posted_May_F a0 a1 a2 a3 w R) : Calls Try.prog 16 #[a0, a1, a2, a3] w fun e w' => ∃ v, e = .returned v ∧ R v w' :=
  Go.X.calls_of_sx (n := 34) (c := posted_Posted_May_b) Try.func16 (by kernel_rfl) (by kernel_rfl) (Nat.le_of_ble_eq_true rfl) (by kernel_rfl) (Eq.mpr (posted_Posted_May_eq a0 a1 a2 a3 w R) h)
noncomputable def posted_Posted_Match_b : Code := (Try.f17.body).getD .skip
noncomputable def posted_Posted_Match_R0 : Code := cAt [1, 1, 1, 0, 1] posted_Posted_Match_b
noncomputable def posted_Posted_Match_R1 : Code := cAt [1, 1, 1, 1] posted_Posted_Match_b
noncomputable def posted_Posted_Match_R2 : Code := cAt [1, 1, 1, 1, 0] posted_Posted_Match_b
noncomputable def posted_Posted_Match_R3 : Code := cAt [1, 1, 1, 1, 1] posted_Posted_Match_b
noncomputable def posted_Posted_Match_R4 : Code := cAt [1, 1, 1, 1, 1, 0] posted_Posted_Match_b
noncomputable def posted_Posted_Match_R5 : Code := cAt [1, 1, 1, 1, 1, 1] posted_Posted_Match_b
noncomputable def posted_Posted_Match_R0_F (z : At) (K : Exit → Sl → World → Prop) (ρ : Sl) (w : World) : Prop :=
  CondK (ρ 39) (K .ret (up ρ 12 (Value.int .i64 2)) w) (K .normal ρ w)
theorem posted_Posted_Match_R0_eq (z : At) (K : Exit → Sl → World → Prop) (ρ : Sl) (w : World) : sx z Try.prog 62 posted_Posted_Match_R0 K ρ w = posted_Posted_Match_R0_F z K ρ w := by kernel_rfl
noncomputable def posted_Posted_Match_R1_F (z : At) (K : Exit → Sl → World → Prop) (ρ : Sl) (w : World) : Prop :=
  W z Try.prog 62 posted_Posted_Match_R2 (seqK (sx z Try.prog 62 posted_Posted_Match_R3 K) K) ρ w
theorem posted_Posted_Match_R1_eq (z : At) (K : Exit → Sl → World → Prop) (ρ : Sl) (w : World) : sx z Try.prog 62 posted_Posted_Match_R1 K ρ w = posted_Posted_Match_R1_F z K ρ w := by kernel_rfl
noncomputable def posted_Posted_Match_R2_ops : Array Oper := opsOf posted_Posted_Match_R2
def posted_Posted_Match_R2_H (S : World → Prop) (K : Exit → Sl → World → Prop) (ρ : Sl) (w : World) : Prop :=
  HK Try.prog S (nilCk (ρ 0)) fun x42_2 => HK Try.prog S (do pure (Next.value (← Instr.fieldAt 61 x42_2 1))) fun x43_2 => HK Try.prog S (do pure (Next.value (← Instr.indexAt 59 x43_2 (ρ 2)))) fun x44_2 => HK Try.prog S (do pure (Next.value (← Instr.loadAt 41 x44_2))) fun x45_2 => CK Try.prog (Value.func (Fn.func 42) #[] #[]) [(ρ 0), (ρ 2), (ρ 3)] w fun x49_2 w => S w ∧ (HK Try.prog S (do pure (Next.value (← Instr.indexAt 41 x45_2 x49_2))) fun x50_2 => K Exit.normal (up (up (up (up (up (up (up (up (up (up (up (up ρ 40 (ρ 0)) 41 (ρ 2)) 42 x42_2) 43 x43_2) 44 x44_2) 45 x45_2) 46 (ρ 0)) 47 (ρ 2)) 48 (ρ 3)) 49 x49_2) 50 x50_2) 14 x50_2) w)
theorem posted_Posted_Match_R2_held {D : List Deferred} (S : World → Prop) {K : Exit → Sl → World → Prop} {ρ : Sl} {w : World} (hS : S { w with drawn := w.drawn + 1 }) (h : posted_Posted_Match_R2_H S K ρ { w with drawn := w.drawn + 1 }) : W ⟨none, D⟩ Try.prog 62 posted_Posted_Match_R2 K ρ w := by
  have e : posted_Posted_Match_R2 = .region (idOf posted_Posted_Match_R2) posted_Posted_Match_R2_ops true := by kernel_rfl
  have q : sxh Try.prog S posted_Posted_Match_R2_ops (K .normal) [(0, true), (1, true), (2, true), (3, true), (4, true), (5, true), (6, true), (7, true), (8, true), (9, false), (10, true), (11, true)] ρ { w with drawn := w.drawn + 1 } = posted_Posted_Match_R2_H S K ρ { w with drawn := w.drawn + 1 } := by kernel_rfl
  rw [e]
  exact W_held S [(0, true), (1, true), (2, true), (3, true), (4, true), (5, true), (6, true), (7, true), (8, true), (9, false), (10, true), (11, true)] (by kernel_rfl) (by kernel_rfl) (by kernel_rfl) (by kernel_rfl) hS (Eq.mpr q h)
noncomputable def posted_Posted_Match_R3_F (z : At) (K : Exit → Sl → World → Prop) (ρ : Sl) (w : World) : Prop :=
  W z Try.prog 62 posted_Posted_Match_R4 (seqK (sx z Try.prog 62 posted_Posted_Match_R5 K) K) ρ w
theorem posted_Posted_Match_R3_eq (z : At) (K : Exit → Sl → World → Prop) (ρ : Sl) (w : World) : sx z Try.prog 62 posted_Posted_Match_R3 K ρ w = posted_Posted_Match_R3_F z K ρ w := by kernel_rfl
noncomputable def posted_Posted_Match_R4_ops : Array Oper := opsOf posted_Posted_Match_R4
def posted_Posted_Match_R4_H0 (S : World → Prop) (K : Sl → World → Prop) (ρ : Sl) (w : World) : Prop :=
  HK Try.prog S (do pure (Next.value (← Instr.loadAt 3 (ρ 10)))) fun x54 => HK Try.prog S (do pure (Next.value (← Instr.loadAt 3 (ρ 11)))) fun x55 => HK Try.prog S (nilCk (ρ 14)) fun x56 => HK Try.prog S (do pure (Next.value (← Instr.fieldAt 24 x56 6))) fun x57 => UK Try.prog (Instr.storeAt 4 x57 (Value.bool true)) w fun _ w => S w ∧ (HK Try.prog S (nilCk (ρ 14)) fun x58 => HK Try.prog S (do pure (Next.value (← Instr.fieldAt 24 x58 7))) fun x59 => UK Try.prog (Instr.storeAt 3 x59 x54) w fun _ w => S w ∧ (HK Try.prog S (nilCk (ρ 14)) fun x60 => K (up (up (up (up (up (up (up (up (up (up ρ 51 (ρ 14)) 52 (ρ 14)) 53 (ρ 14)) 54 x54) 55 x55) 56 x56) 57 x57) 58 x58) 59 x59) 60 x60) w))
theorem posted_Posted_Match_R4_q0 (S : World → Prop) (K : Sl → World → Prop) : sxh Try.prog S posted_Posted_Match_R4_ops K [(0, true), (1, true), (2, true), (3, true), (4, true), (5, true), (6, true), (7, false), (8, true), (9, true), (10, false), (11, true)] = posted_Posted_Match_R4_H0 S K := by kernel_rfl
def posted_Posted_Match_R4_H1 (S : World → Prop) (K : Sl → World → Prop) (ρ : Sl) (w : World) : Prop :=
  HK Try.prog S (do pure (Next.value (← Instr.fieldAt 24 (ρ 60) 8))) fun x61 => UK Try.prog (Instr.storeAt 3 x61 (ρ 55)) w fun _ w => S w ∧ (K (up ρ 61 x61) w)
theorem posted_Posted_Match_R4_q1 (S : World → Prop) (K : Sl → World → Prop) : sxh Try.prog S posted_Posted_Match_R4_ops K [(12, true), (13, false)] = posted_Posted_Match_R4_H1 S K := by kernel_rfl
def posted_Posted_Match_R4_H (S : World → Prop) (K : Exit → Sl → World → Prop) (ρ : Sl) (w : World) : Prop :=
  posted_Posted_Match_R4_H0 S (posted_Posted_Match_R4_H1 S (K .normal)) ρ w
theorem posted_Posted_Match_R4_steps : planOk Try.prog 62 posted_Posted_Match_R4_ops [(0, true), (1, true), (2, true), (3, true), (4, true), (5, true), (6, true), (7, false), (8, true), (9, true), (10, false), (11, true), (12, true), (13, false)] (Array.replicate posted_Posted_Match_R4_ops.size false) = true :=
  by kernel_rfl
theorem posted_Posted_Match_R4_held {D : List Deferred} (S : World → Prop) {K : Exit → Sl → World → Prop} {ρ : Sl} {w : World} (hS : S { w with drawn := w.drawn + 1 }) (h : posted_Posted_Match_R4_H S K ρ { w with drawn := w.drawn + 1 }) : W ⟨none, D⟩ Try.prog 62 posted_Posted_Match_R4 K ρ w := by
  have e : posted_Posted_Match_R4 = .region (idOf posted_Posted_Match_R4) posted_Posted_Match_R4_ops true := by kernel_rfl
  have q : sxh Try.prog S posted_Posted_Match_R4_ops (K .normal) [(0, true), (1, true), (2, true), (3, true), (4, true), (5, true), (6, true), (7, false), (8, true), (9, true), (10, false), (11, true), (12, true), (13, false)] ρ { w with drawn := w.drawn + 1 } = posted_Posted_Match_R4_H S K ρ { w with drawn := w.drawn + 1 } := by
    show sxh Try.prog S posted_Posted_Match_R4_ops (K .normal) ([(0, true), (1, true), (2, true), (3, true), (4, true), (5, true), (6, true), (7, false), (8, true), (9, true), (10, false), (11, true)] ++ [(12, true), (13, false)]) ρ { w with drawn := w.drawn + 1 } = _
    rw [sxh_append, posted_Posted_Match_R4_q1, posted_Posted_Match_R4_q0]; rfl
  rw [e]
  exact W_held S [(0, true), (1, true), (2, true), (3, true), (4, true), (5, true), (6, true), (7, false), (8, true), (9, true), (10, false), (11, true), (12, true), (13, false)] (by kernel_rfl) (by kernel_rfl) posted_Posted_Match_R4_steps (by kernel_rfl) hS (Eq.mpr q h)
noncomputable def posted_Posted_Match_R5_F (z : At) (K : Exit → Sl → World → Prop) (ρ : Sl) (w : World) : Prop :=
  K .ret (up ρ 12 (Value.int .i64 0)) w
theorem posted_Posted_Match_R5_eq (z : At) (K : Exit → Sl → World → Prop) (ρ : Sl) (w : World) : sx z Try.prog 62 posted_Posted_Match_R5 K ρ w = posted_Posted_Match_R5_F z K ρ w := by kernel_rfl
noncomputable def posted_Posted_Match_F (a0 a1 a2 a3 a4 a5 : Value) (w : World) (R : Value → World → Prop) : Prop :=
  VK Try.prog (Instr.box 3 a4) w fun x10 w => VK Try.prog (Instr.box 3 a5) w fun x11 w => BK Try.prog .eql 28 (.tmp 15) (.const (Value.pointer none)) a0 (Value.pointer none) w fun x16 w => MG Try.prog x16 false a0 w fun x18 w => NG Try.prog x16 false x18 w fun x19 w => VG Try.prog x16 false (Instr.fieldAt 61 x19 0) w fun x20 w => VG Try.prog x16 false (Instr.loadAt 4 x20) w fun x21 w => VG Try.prog x16 false (Op.unary UnOp.not x21) w fun x22 w => PK Try.prog x16 (Value.bool true) x22 w fun x23 w => CondK x23 (R (Value.int .i64 1) w) (VK Try.prog (Instr.makeFunc (Fn.func 43) [].toArray [x10, x11].toArray) w fun x24 w => CK Try.prog (Value.func (Fn.func 16) #[] #[]) [a0, a1, a2, a3] w fun x29 w => CK Try.prog (Value.func (Fn.func 44) #[] #[]) [x29, x24] w fun x31 w => VK Try.prog (Op.unary UnOp.not x31) w fun x32 w => MG Try.prog x32 false a1 w fun x34 w => VG Try.prog x32 false (Instr.loadAt 3 x10) w fun x35 w => VG Try.prog x32 false (Instr.loadAt 3 x11) w fun x36 w => CG Try.prog x32 false (Value.func (Fn.func 45) #[] #[]) [x34, x35, x36] w fun x37 w => BG Try.prog x32 false .neq 33 (.tmp 37) (.const (Value.int .i64 0)) x37 (Value.int .i64 0) w fun x38 w => PK Try.prog x32 (Value.bool true) x38 w fun x39 w => sx fn_ Try.prog 62 posted_Posted_Match_R0 (seqK (sx fn_ Try.prog 62 posted_Posted_Match_R1 (retK Try.prog [ResultVar.tmp 12] R)) (retK Try.prog [ResultVar.tmp 12] R)) (up (up (up (up (up (up (up (up (up (up (up (up (up (up (up (up (up (up (up (up (up (up (up (up (up (up (up (up (up (rho0 [a0, a1, a2, a3, a4, a5]) 10 x10) 11 x11) 12 (Value.int .i64 0)) 15 a0) 16 x16) 17 x16) 18 x18) 19 x19) 20 x20) 21 x21) 22 x22) 23 x23) 24 x24) 13 x24) 25 a0) 26 a1) 27 a2) 28 a3) 29 x29) 30 x24) 31 x31) 32 x32) 33 x32) 34 x34) 35 x35) 36 x36) 37 x37) 38 x38) 39 x39) w)
theorem posted_Posted_Match_eq (a0 a1 a2 a3 a4 a5 : Value) (w : World) (R : Value → World → Prop) : sx fn_ Try.prog 62 posted_Posted_Match_b (retK Try.prog Try.f17.results.toList R) (rho0 [a0, a1, a2, a3, a4, a5]) w = posted_Posted_Match_F a0 a1 a2 a3 a4 a5 w R := by kernel_rfl
theorem posted_Posted_Match_calls {a0 a1 a2 a3 a4 a5 : Value} {w : World} {R : Value → World → Prop} (h : posted_Posted_Match_F a0 a1 a2 a3 a4 a5 w R) : Calls Try.prog 17 #[a0, a1, a2, a3, a4, a5] w fun e w' => ∃ v, e = .returned v ∧ R v w' :=
  Go.X.calls_of_sx (n := 62) (c := posted_Posted_Match_b) Try.func17 (by kernel_rfl) (by kernel_rfl) (Nat.le_of_ble_eq_true rfl) (by kernel_rfl) (Eq.mpr (posted_Posted_Match_eq a0 a1 a2 a3 a4 a5 w R) h)
noncomputable def posted_New_b : Code := (Try.f24.body).getD .skip
noncomputable def posted_New_F (w : World) (R : Value → World → Prop) : Prop :=
  VK Try.prog (Instr.build 61 [(0, (Value.bool true))].toArray) w fun x1 w => VK Try.prog (Instr.box 61 x1) w fun x2 w => R x2 w
theorem posted_New_calls {w : World} {R : Value → World → Prop} (h : posted_New_F  w R) : Calls Try.prog 24 #[] w fun e w' => ∃ v, e = .returned v ∧ R v w' :=
  Go.X.calls_eq (n := 3) (c := posted_New_b) (fn := Try.f24) (args := #[]) (F := posted_New_F  w R) (R := R) Try.func24 (by kernel_rfl) (by kernel_rfl) (Nat.le_of_ble_eq_true rfl) (by kernel_rfl) (by kernel_rfl) h
noncomputable def posted_Posted_Copy_b : Code := (Try.f28.body).getD .skip
noncomputable def posted_Posted_Copy_L0 : Code := cAt [1, 1, 1, 0, 1, 0, 0] posted_Posted_Copy_b
noncomputable def posted_Posted_Copy_R1 : Code := cAt [1, 1, 1, 1] posted_Posted_Copy_b
noncomputable def posted_Posted_Copy_L0_F (z : At) (K : Exit → Sl → World → Prop) (ρ : Sl) (w : World) : Prop :=
  BK Try.prog .lss 3 (.tmp 13) (.const (Value.int .i64 64)) (ρ 13) (Value.int .i64 64) w fun x14 w => CondK x14 (VK Try.prog (Instr.index 59 (ρ 12) (ρ 13)) w fun x16 w => CK Try.prog (Value.func (Fn.func 51) #[] #[]) [x16] w fun x19 w => VK Try.prog (Instr.fieldAt 61 (ρ 3) 1) w fun x20 w => VK Try.prog (Instr.indexAt 59 x20 (ρ 13)) w fun x21 w => UK Try.prog (Instr.storeAt 41 x21 x19) w fun _ w => BK Try.prog .add 3 (.tmp 13) (.const (Value.int .i64 1)) (ρ 13) (Value.int .i64 1) w fun x22 w => K .normal (up (up (up (up (up (up (up (up (up (up (up (up ρ 14 x14) 15 (ρ 13)) 16 x16) 4 (ρ 13)) 5 x16) 17 (ρ 13)) 18 x16) 19 x19) 20 x20) 21 x21) 22 x22) 13 x22) w) (K (.exit 0) (up ρ 14 x14) w)
theorem posted_Posted_Copy_L0_eq (z : At) (K : Exit → Sl → World → Prop) (ρ : Sl) (w : World) : sx z Try.prog 23 posted_Posted_Copy_L0 K ρ w = posted_Posted_Copy_L0_F z K ρ w := by kernel_rfl
theorem posted_Posted_Copy_L0_ok : dstOk 23 posted_Posted_Copy_L0 = true := by kernel_rfl
noncomputable def posted_Posted_Copy_R1_F (z : At) (K : Exit → Sl → World → Prop) (ρ : Sl) (w : World) : Prop :=
  K .ret (up ρ 2 (ρ 3)) w
theorem posted_Posted_Copy_R1_eq (z : At) (K : Exit → Sl → World → Prop) (ρ : Sl) (w : World) : sx z Try.prog 23 posted_Posted_Copy_R1 K ρ w = posted_Posted_Copy_R1_F z K ρ w := by kernel_rfl
noncomputable def posted_Posted_Copy_F (a0 : Value) (w : World) (R : Value → World → Prop) : Prop :=
  BK Try.prog .eql 28 (.tmp 6) (.const (Value.pointer none)) a0 (Value.pointer none) w fun x7 w => CondK x7 (R (Value.pointer none) w) (NK Try.prog a0 w fun x9 w => VK Try.prog (Instr.loadAt 61 x9) w fun x10 w => VK Try.prog (Instr.alloc 61 true (.tuple #[])) w fun x3 w => UK Try.prog (Instr.storeAt 61 x3 x10) w fun _ w => VK Try.prog (Instr.fieldAt 61 x3 1) w fun x11 w => VK Try.prog (Instr.loadAt 59 x11) w fun x12 w => W fn_ Try.prog 23 (Code.loop posted_Posted_Copy_L0) (blkK 0 (seqK (sx fn_ Try.prog 23 posted_Posted_Copy_R1 (retK Try.prog [ResultVar.tmp 2] R)) (retK Try.prog [ResultVar.tmp 2] R))) (up (up (up (up (up (up (up (up (up (up (rho0 [a0]) 2 (Value.pointer none)) 6 a0) 7 x7) 8 a0) 9 x9) 10 x10) 3 x3) 11 x11) 12 x12) 13 (Value.int .i64 0)) w)
theorem posted_Posted_Copy_eq (a0 : Value) (w : World) (R : Value → World → Prop) : sx fn_ Try.prog 23 posted_Posted_Copy_b (retK Try.prog Try.f28.results.toList R) (rho0 [a0]) w = posted_Posted_Copy_F a0 w R := by kernel_rfl
theorem posted_Posted_Copy_calls {a0 : Value} {w : World} {R : Value → World → Prop} (h : posted_Posted_Copy_F a0 w R) : Calls Try.prog 28 #[a0] w fun e w' => ∃ v, e = .returned v ∧ R v w' :=
  Go.X.calls_of_sx (n := 23) (c := posted_Posted_Copy_b) Try.func28 (by kernel_rfl) (by kernel_rfl) (Nat.le_of_ble_eq_true rfl) (by kernel_rfl) (Eq.mpr (posted_Posted_Copy_eq a0 w R) h)
noncomputable def dispatcherlaw14_begin_b : Code := (Try.f29.body).getD .skip
noncomputable def dispatcherlaw14_begin_F (w : World) (R : Value → World → Prop) : Prop :=
  CK Try.prog (Value.func (Fn.func 23) #[] #[]) [] w fun x1 w => CK Try.prog (Value.func (Fn.func 24) #[] #[]) [] w fun x2 w => VK Try.prog (Instr.build 97 [].toArray) w fun x3 w => VK Try.prog (Instr.box 97 x3) w fun x4 w => VK Try.prog (Instr.build 71 [].toArray) w fun x5 w => VK Try.prog (Instr.box 71 x5) w fun x6 w => VK Try.prog (Instr.build 69 [(0, x1), (1, x2), (2, x4), (3, x6)].toArray) w fun x7 w => VK Try.prog (Instr.box 69 x7) w fun x8 w => R x8 w
theorem dispatcherlaw14_begin_calls {w : World} {R : Value → World → Prop} (h : dispatcherlaw14_begin_F  w R) : Calls Try.prog 29 #[] w fun e w' => ∃ v, e = .returned v ∧ R v w' :=
  Go.X.calls_eq (n := 9) (c := dispatcherlaw14_begin_b) (fn := Try.f29) (args := #[]) (F := dispatcherlaw14_begin_F  w R) (R := R) Try.func29 (by kernel_rfl) (by kernel_rfl) (Nat.le_of_ble_eq_true rfl) (by kernel_rfl) (by kernel_rfl) h
noncomputable def dispatcherlaw14_play_does_b : Code := (Try.f30.body).getD .skip
noncomputable def dispatcherlaw14_play_does_R0 : Code := cAt [1, 0, 1, 0, 1] dispatcherlaw14_play_does_b
noncomputable def dispatcherlaw14_play_does_R1 : Code := cAt [1, 1] dispatcherlaw14_play_does_b
noncomputable def dispatcherlaw14_play_does_R2 : Code := cAt [1, 0, 1, 0, 1, 0, 0] dispatcherlaw14_play_does_b
noncomputable def dispatcherlaw14_play_does_R3 : Code := cAt [1, 0, 1, 0, 1, 0, 1] dispatcherlaw14_play_does_b
noncomputable def dispatcherlaw14_play_does_R4 : Code := cAt [1, 0, 1, 0, 1, 1, 1, 0, 0] dispatcherlaw14_play_does_b
noncomputable def dispatcherlaw14_play_does_R5 : Code := cAt [1, 0, 1, 0, 1, 1, 1, 0, 1] dispatcherlaw14_play_does_b
noncomputable def dispatcherlaw14_play_does_R6 : Code := cAt [1, 0, 1, 0, 1, 1, 1, 1, 1, 0, 0] dispatcherlaw14_play_does_b
noncomputable def dispatcherlaw14_play_does_R7 : Code := cAt [1, 0, 1, 0, 1, 1, 1, 1, 1, 0, 1] dispatcherlaw14_play_does_b
noncomputable def dispatcherlaw14_play_does_R8 : Code := cAt [1, 1, 0] dispatcherlaw14_play_does_b
noncomputable def dispatcherlaw14_play_does_R9 : Code := cAt [1, 1, 1] dispatcherlaw14_play_does_b
noncomputable def dispatcherlaw14_play_does_R10 : Code := cAt [1, 1, 1, 1, 0] dispatcherlaw14_play_does_b
noncomputable def dispatcherlaw14_play_does_R11 : Code := cAt [1, 1, 1, 1, 1] dispatcherlaw14_play_does_b
noncomputable def dispatcherlaw14_play_does_R0_F (z : At) (K : Exit → Sl → World → Prop) (ρ : Sl) (w : World) : Prop :=
  CondK (ρ 10) (W z Try.prog 150 dispatcherlaw14_play_does_R2 (seqK (sx z Try.prog 150 dispatcherlaw14_play_does_R3 K) K) ρ w) (BK Try.prog .eql 5 (.tmp 9) (.const (Value.int .u8 2)) (ρ 9) (Value.int .u8 2) w fun x29 w => CondK x29 (W z Try.prog 150 dispatcherlaw14_play_does_R4 (seqK (sx z Try.prog 150 dispatcherlaw14_play_does_R5 K) K) (up (up ρ 29 x29) 28 x29) w) (BK Try.prog .eql 5 (.tmp 9) (.const (Value.int .u8 3)) (ρ 9) (Value.int .u8 3) w fun x46 w => CondK x46 (W z Try.prog 150 dispatcherlaw14_play_does_R6 (seqK (sx z Try.prog 150 dispatcherlaw14_play_does_R7 K) K) (up (up (up (up ρ 29 x29) 28 x29) 46 x46) 45 x46) w) (K .normal (up (up (up (up ρ 29 x29) 28 x29) 46 x46) 45 x46) w)))
theorem dispatcherlaw14_play_does_R0_eq (z : At) (K : Exit → Sl → World → Prop) (ρ : Sl) (w : World) : sx z Try.prog 150 dispatcherlaw14_play_does_R0 K ρ w = dispatcherlaw14_play_does_R0_F z K ρ w := by kernel_rfl
noncomputable def dispatcherlaw14_play_does_R1_F (z : At) (K : Exit → Sl → World → Prop) (ρ : Sl) (w : World) : Prop :=
  W z Try.prog 150 dispatcherlaw14_play_does_R8 (seqK (sx z Try.prog 150 dispatcherlaw14_play_does_R9 K) K) ρ w
theorem dispatcherlaw14_play_does_R1_eq (z : At) (K : Exit → Sl → World → Prop) (ρ : Sl) (w : World) : sx z Try.prog 150 dispatcherlaw14_play_does_R1 K ρ w = dispatcherlaw14_play_does_R1_F z K ρ w := by kernel_rfl
noncomputable def dispatcherlaw14_play_does_R2_ops : Array Oper := opsOf dispatcherlaw14_play_does_R2
def dispatcherlaw14_play_does_R2_H0 (S : World → Prop) (K : Sl → World → Prop) (ρ : Sl) (w : World) : Prop :=
  HK Try.prog S (nilCk (ρ 0)) fun x14_2 => HK Try.prog S (do pure (Next.value (← Instr.fieldAt 69 x14_2 0))) fun x15_2 => HK Try.prog S (do pure (Next.value (← Instr.loadAt 27 x15_2))) fun x16_2 => HK Try.prog S (do pure (Next.value (← Instr.fieldAt 48 (ρ 3) 1))) fun x17_2 => HK Try.prog S (do pure (Next.value (← Instr.loadAt 39 x17_2))) fun x18_2 => HK Try.prog S (nilCk (ρ 0)) fun x21_2 => HK Try.prog S (do pure (Next.value (← Instr.fieldAt 69 x21_2 2))) fun x22_2 => HK Try.prog S (do pure (Next.value (← Instr.loadAt 66 x22_2))) fun x23_2 => HK Try.prog S (do pure (Next.value (← Instr.fieldAt 48 (ρ 3) 1))) fun x24_2 => HK Try.prog S (do pure (Next.value (← Instr.loadAt 39 x24_2))) fun x25_2 => K (up (up (up (up (up (up (up (up (up (up (up (up ρ 13 (ρ 0)) 14 x14_2) 15 x15_2) 16 x16_2) 17 x17_2) 18 x18_2) 20 (ρ 0)) 21 x21_2) 22 x22_2) 23 x23_2) 24 x24_2) 25 x25_2) w
theorem dispatcherlaw14_play_does_R2_q0 (S : World → Prop) (K : Sl → World → Prop) : sxh Try.prog S dispatcherlaw14_play_does_R2_ops K [(0, true), (1, true), (2, true), (3, true), (4, true), (5, true), (7, true), (8, true), (9, true), (10, true), (11, true), (12, true)] = dispatcherlaw14_play_does_R2_H0 S K := by kernel_rfl
def dispatcherlaw14_play_does_R2_H1 (S : World → Prop) (K : Sl → World → Prop) (ρ : Sl) (w : World) : Prop :=
  CK Try.prog (Value.func (Fn.func 25) #[] #[]) [(ρ 16), (ρ 18)] w fun x19_2 w => S w ∧ (CK Try.prog (Value.func (Fn.func 52) #[] #[]) [(ρ 23), (ρ 25)] w fun x26_2 w => S w ∧ (HK Try.prog S (do pure (Next.value (← (do eqGuard BinOp.eql 3 (Operand.tmp 19) (Operand.tmp 26) x19_2 x26_2; binOp BinOp.eql 3 x19_2 x26_2)))) fun x27_2 => K (up (up (up (up ρ 19 x19_2) 26 x26_2) 27 x27_2) 4 x27_2) w))
theorem dispatcherlaw14_play_does_R2_q1 (S : World → Prop) (K : Sl → World → Prop) : sxh Try.prog S dispatcherlaw14_play_does_R2_ops K [(6, false), (13, false), (14, true), (15, true)] = dispatcherlaw14_play_does_R2_H1 S K := by kernel_rfl
def dispatcherlaw14_play_does_R2_H (S : World → Prop) (K : Exit → Sl → World → Prop) (ρ : Sl) (w : World) : Prop :=
  dispatcherlaw14_play_does_R2_H0 S (dispatcherlaw14_play_does_R2_H1 S (K .normal)) ρ w
theorem dispatcherlaw14_play_does_R2_steps : planOk Try.prog 150 dispatcherlaw14_play_does_R2_ops [(0, true), (1, true), (2, true), (3, true), (4, true), (5, true), (7, true), (8, true), (9, true), (10, true), (11, true), (12, true), (6, false), (13, false), (14, true), (15, true)] (Array.replicate dispatcherlaw14_play_does_R2_ops.size false) = true :=
  by kernel_rfl
theorem dispatcherlaw14_play_does_R2_held {D : List Deferred} (S : World → Prop) {K : Exit → Sl → World → Prop} {ρ : Sl} {w : World} (hS : S { w with drawn := w.drawn + 1 }) (h : dispatcherlaw14_play_does_R2_H S K ρ { w with drawn := w.drawn + 1 }) : W ⟨none, D⟩ Try.prog 150 dispatcherlaw14_play_does_R2 K ρ w := by
  have e : dispatcherlaw14_play_does_R2 = .region (idOf dispatcherlaw14_play_does_R2) dispatcherlaw14_play_does_R2_ops true := by kernel_rfl
  have q : sxh Try.prog S dispatcherlaw14_play_does_R2_ops (K .normal) [(0, true), (1, true), (2, true), (3, true), (4, true), (5, true), (7, true), (8, true), (9, true), (10, true), (11, true), (12, true), (6, false), (13, false), (14, true), (15, true)] ρ { w with drawn := w.drawn + 1 } = dispatcherlaw14_play_does_R2_H S K ρ { w with drawn := w.drawn + 1 } := by
    show sxh Try.prog S dispatcherlaw14_play_does_R2_ops (K .normal) ([(0, true), (1, true), (2, true), (3, true), (4, true), (5, true), (7, true), (8, true), (9, true), (10, true), (11, true), (12, true)] ++ [(6, false), (13, false), (14, true), (15, true)]) ρ { w with drawn := w.drawn + 1 } = _
    rw [sxh_append, dispatcherlaw14_play_does_R2_q1, dispatcherlaw14_play_does_R2_q0]; rfl
  rw [e]
  exact W_held S [(0, true), (1, true), (2, true), (3, true), (4, true), (5, true), (7, true), (8, true), (9, true), (10, true), (11, true), (12, true), (6, false), (13, false), (14, true), (15, true)] (by kernel_rfl) (by kernel_rfl) dispatcherlaw14_play_does_R2_steps (by kernel_rfl) hS (Eq.mpr q h)
noncomputable def dispatcherlaw14_play_does_R3_F (z : At) (K : Exit → Sl → World → Prop) (ρ : Sl) (w : World) : Prop :=
  K .ret ρ w
theorem dispatcherlaw14_play_does_R3_eq (z : At) (K : Exit → Sl → World → Prop) (ρ : Sl) (w : World) : sx z Try.prog 150 dispatcherlaw14_play_does_R3 K ρ w = dispatcherlaw14_play_does_R3_F z K ρ w := by kernel_rfl
noncomputable def dispatcherlaw14_play_does_R4_ops : Array Oper := opsOf dispatcherlaw14_play_does_R4
def dispatcherlaw14_play_does_R4_H0 (S : World → Prop) (K : Sl → World → Prop) (ρ : Sl) (w : World) : Prop :=
  HK Try.prog S (nilCk (ρ 0)) fun x31_2 => HK Try.prog S (do pure (Next.value (← Instr.fieldAt 69 x31_2 1))) fun x32_2 => HK Try.prog S (do pure (Next.value (← Instr.loadAt 28 x32_2))) fun x33_2 => HK Try.prog S (do pure (Next.value (← Instr.fieldAt 48 (ρ 3) 2))) fun x34_2 => HK Try.prog S (do pure (Next.value (← Instr.loadAt 24 x34_2))) fun x35_2 => HK Try.prog S (nilCk (ρ 0)) fun x38_2 => HK Try.prog S (do pure (Next.value (← Instr.fieldAt 69 x38_2 3))) fun x39_2 => HK Try.prog S (do pure (Next.value (← Instr.loadAt 67 x39_2))) fun x40_2 => HK Try.prog S (do pure (Next.value (← Instr.fieldAt 48 (ρ 3) 2))) fun x41_2 => HK Try.prog S (do pure (Next.value (← Instr.loadAt 24 x41_2))) fun x42_2 => K (up (up (up (up (up (up (up (up (up (up (up (up ρ 30 (ρ 0)) 31 x31_2) 32 x32_2) 33 x33_2) 34 x34_2) 35 x35_2) 37 (ρ 0)) 38 x38_2) 39 x39_2) 40 x40_2) 41 x41_2) 42 x42_2) w
theorem dispatcherlaw14_play_does_R4_q0 (S : World → Prop) (K : Sl → World → Prop) : sxh Try.prog S dispatcherlaw14_play_does_R4_ops K [(0, true), (1, true), (2, true), (3, true), (4, true), (5, true), (7, true), (8, true), (9, true), (10, true), (11, true), (12, true)] = dispatcherlaw14_play_does_R4_H0 S K := by kernel_rfl
def dispatcherlaw14_play_does_R4_H1 (S : World → Prop) (K : Sl → World → Prop) (ρ : Sl) (w : World) : Prop :=
  CK Try.prog (Value.func (Fn.func 14) #[] #[]) [(ρ 33), (ρ 35)] w fun x36_2 w => S w ∧ (CK Try.prog (Value.func (Fn.func 53) #[] #[]) [(ρ 40), (ρ 42)] w fun x43_2 w => S w ∧ (HK Try.prog S (do pure (Next.value (← (do eqGuard BinOp.eql 3 (Operand.tmp 36) (Operand.tmp 43) x36_2 x43_2; binOp BinOp.eql 3 x36_2 x43_2)))) fun x44_2 => K (up (up (up (up ρ 36 x36_2) 43 x43_2) 44 x44_2) 4 x44_2) w))
theorem dispatcherlaw14_play_does_R4_q1 (S : World → Prop) (K : Sl → World → Prop) : sxh Try.prog S dispatcherlaw14_play_does_R4_ops K [(6, false), (13, false), (14, true), (15, true)] = dispatcherlaw14_play_does_R4_H1 S K := by kernel_rfl
def dispatcherlaw14_play_does_R4_H (S : World → Prop) (K : Exit → Sl → World → Prop) (ρ : Sl) (w : World) : Prop :=
  dispatcherlaw14_play_does_R4_H0 S (dispatcherlaw14_play_does_R4_H1 S (K .normal)) ρ w
theorem dispatcherlaw14_play_does_R4_steps : planOk Try.prog 150 dispatcherlaw14_play_does_R4_ops [(0, true), (1, true), (2, true), (3, true), (4, true), (5, true), (7, true), (8, true), (9, true), (10, true), (11, true), (12, true), (6, false), (13, false), (14, true), (15, true)] (Array.replicate dispatcherlaw14_play_does_R4_ops.size false) = true :=
  by kernel_rfl
theorem dispatcherlaw14_play_does_R4_held {D : List Deferred} (S : World → Prop) {K : Exit → Sl → World → Prop} {ρ : Sl} {w : World} (hS : S { w with drawn := w.drawn + 1 }) (h : dispatcherlaw14_play_does_R4_H S K ρ { w with drawn := w.drawn + 1 }) : W ⟨none, D⟩ Try.prog 150 dispatcherlaw14_play_does_R4 K ρ w := by
  have e : dispatcherlaw14_play_does_R4 = .region (idOf dispatcherlaw14_play_does_R4) dispatcherlaw14_play_does_R4_ops true := by kernel_rfl
  have q : sxh Try.prog S dispatcherlaw14_play_does_R4_ops (K .normal) [(0, true), (1, true), (2, true), (3, true), (4, true), (5, true), (7, true), (8, true), (9, true), (10, true), (11, true), (12, true), (6, false), (13, false), (14, true), (15, true)] ρ { w with drawn := w.drawn + 1 } = dispatcherlaw14_play_does_R4_H S K ρ { w with drawn := w.drawn + 1 } := by
    show sxh Try.prog S dispatcherlaw14_play_does_R4_ops (K .normal) ([(0, true), (1, true), (2, true), (3, true), (4, true), (5, true), (7, true), (8, true), (9, true), (10, true), (11, true), (12, true)] ++ [(6, false), (13, false), (14, true), (15, true)]) ρ { w with drawn := w.drawn + 1 } = _
    rw [sxh_append, dispatcherlaw14_play_does_R4_q1, dispatcherlaw14_play_does_R4_q0]; rfl
  rw [e]
  exact W_held S [(0, true), (1, true), (2, true), (3, true), (4, true), (5, true), (7, true), (8, true), (9, true), (10, true), (11, true), (12, true), (6, false), (13, false), (14, true), (15, true)] (by kernel_rfl) (by kernel_rfl) dispatcherlaw14_play_does_R4_steps (by kernel_rfl) hS (Eq.mpr q h)
noncomputable def dispatcherlaw14_play_does_R5_F (z : At) (K : Exit → Sl → World → Prop) (ρ : Sl) (w : World) : Prop :=
  K .ret ρ w
theorem dispatcherlaw14_play_does_R5_eq (z : At) (K : Exit → Sl → World → Prop) (ρ : Sl) (w : World) : sx z Try.prog 150 dispatcherlaw14_play_does_R5 K ρ w = dispatcherlaw14_play_does_R5_F z K ρ w := by kernel_rfl
noncomputable def dispatcherlaw14_play_does_R6_ops : Array Oper := opsOf dispatcherlaw14_play_does_R6
noncomputable def dispatcherlaw14_play_does_R7_F (z : At) (K : Exit → Sl → World → Prop) (ρ : Sl) (w : World) : Prop :=
  K .ret ρ w
theorem dispatcherlaw14_play_does_R7_eq (z : At) (K : Exit → Sl → World → Prop) (ρ : Sl) (w : World) : sx z Try.prog 150 dispatcherlaw14_play_does_R7 K ρ w = dispatcherlaw14_play_does_R7_F z K ρ w := by kernel_rfl
noncomputable def dispatcherlaw14_play_does_R8_ops : Array Oper := opsOf dispatcherlaw14_play_does_R8
def dispatcherlaw14_play_does_R8_T (K : Exit → Sl → World → Prop) (ρ : Sl) (w : World) : Prop :=
  let C : World → Prop := fun w' => w' = w; QK Try.prog C (nilCk (ρ 0)) fun x91_1 => QK Try.prog C (do pure (Next.value (← Instr.fieldAt 69 x91_1 0))) fun x92_1 => QK Try.prog C (do pure (Next.value (← Instr.loadAt 27 x92_1))) fun x93_1 => QK Try.prog C (nilCk (ρ 0)) fun x95_1 => QK Try.prog C (do pure (Next.value (← Instr.fieldAt 69 x95_1 1))) fun x96_1 => QK Try.prog C (do pure (Next.value (← Instr.loadAt 28 x96_1))) fun x97_1 => K Exit.normal (up (up (up (up (up (up (up (up (up (up ρ 90 (ρ 0)) 91 x91_1) 92 x92_1) 93 x93_1) 94 (ρ 0)) 95 x95_1) 96 x96_1) 97 x97_1) 5 x93_1) 6 x97_1) w
theorem dispatcherlaw14_play_does_R8_tail {D : List Deferred} {K : Exit → Sl → World → Prop} {ρ : Sl} {w : World} (h : dispatcherlaw14_play_does_R8_T K ρ { w with drawn := w.drawn + 1 }) : W ⟨none, D⟩ Try.prog 150 dispatcherlaw14_play_does_R8 K ρ w := by
  have e : dispatcherlaw14_play_does_R8 = .region (idOf dispatcherlaw14_play_does_R8) dispatcherlaw14_play_does_R8_ops true := by kernel_rfl
  have q : sxq Try.prog (fun w' => w' = { w with drawn := w.drawn + 1 }) dispatcherlaw14_play_does_R8_ops (fun ρ' => sxL Try.prog dispatcherlaw14_play_does_R8_ops (K .normal) (dispatcherlaw14_play_does_R8_ops.toList.drop 9) ρ' { w with drawn := w.drawn + 1 }) (dispatcherlaw14_play_does_R8_ops.toList.take 9) ρ = dispatcherlaw14_play_does_R8_T K ρ { w with drawn := w.drawn + 1 } := by kernel_rfl
  rw [e]
  exact W_tail 9 (by kernel_rfl) (by kernel_rfl) (by kernel_rfl) (by kernel_rfl) (Eq.mpr q h)
noncomputable def dispatcherlaw14_play_does_R9_F (z : At) (K : Exit → Sl → World → Prop) (ρ : Sl) (w : World) : Prop :=
  CK Try.prog (Value.func (Fn.func 55) #[] #[]) [(ρ 5)] w fun x101 w => CK Try.prog (Value.func (Fn.func 28) #[] #[]) [(ρ 6)] w fun x103 w => NK Try.prog (ρ 0) w fun x104 w => VK Try.prog (Instr.fieldAt 69 x104 0) w fun x105 w => UK Try.prog (Instr.storeAt 27 x105 x101) w fun _ w => NK Try.prog (ρ 0) w fun x106 w => VK Try.prog (Instr.fieldAt 69 x106 1) w fun x107 w => UK Try.prog (Instr.storeAt 28 x107 x103) w fun _ w => W z Try.prog 150 dispatcherlaw14_play_does_R10 (seqK (sx z Try.prog 150 dispatcherlaw14_play_does_R11 K) K) (up (up (up (up (up (up (up (up (up (up ρ 98 (ρ 0)) 99 (ρ 0)) 100 (ρ 5)) 101 x101) 102 (ρ 6)) 103 x103) 104 x104) 105 x105) 106 x106) 107 x107) w
theorem dispatcherlaw14_play_does_R9_eq (z : At) (K : Exit → Sl → World → Prop) (ρ : Sl) (w : World) : sx z Try.prog 150 dispatcherlaw14_play_does_R9 K ρ w = dispatcherlaw14_play_does_R9_F z K ρ w := by kernel_rfl
noncomputable def dispatcherlaw14_play_does_R10_ops : Array Oper := opsOf dispatcherlaw14_play_does_R10
def dispatcherlaw14_play_does_R10_H (S : World → Prop) (K : Exit → Sl → World → Prop) (ρ : Sl) (w : World) : Prop :=
  HK Try.prog S (nilCk (ρ 0)) fun x111 => HK Try.prog S (do pure (Next.value (← Instr.fieldAt 69 x111 2))) fun x112 => HK Try.prog S (nilCk (ρ 0)) fun x116 => HK Try.prog S (do pure (Next.value (← Instr.fieldAt 69 x116 3))) fun x117 => (VK Try.prog (Instr.loadAt 66 x112) w fun x113 w => S w ∧ ((CK Try.prog (Value.func (Fn.func 56) #[] #[]) [x113] w fun x114 w => S w ∧ (VK Try.prog (Instr.loadAt 67 x117) w fun x118 w => S w ∧ (CK Try.prog (Value.func (Fn.func 57) #[] #[]) [x118] w fun x119 w => S w ∧ (HK Try.prog S (nilCk (ρ 0)) fun x120 => HK Try.prog S (do pure (Next.value (← Instr.fieldAt 69 x120 2))) fun x121 => UK Try.prog (Instr.storeAt 66 x121 x114) w fun _ w => S w ∧ (HK Try.prog S (nilCk (ρ 0)) fun x122 => HK Try.prog S (do pure (Next.value (← Instr.fieldAt 69 x122 3))) fun x123 => UK Try.prog (Instr.storeAt 67 x123 x119) w fun _ w => S w ∧ (K Exit.normal (up (up (up (up (up (up (up (up (up (up (up (up (up (up (up (up ρ 108 (ρ 0)) 109 (ρ 0)) 110 (ρ 0)) 111 x111) 112 x112) 115 (ρ 0)) 116 x116) 117 x117) 113 x113) 114 x114) 118 x118) 119 x119) 120 x120) 121 x121) 122 x122) 123 x123) w)))))) ∧ (VK Try.prog (Instr.loadAt 67 x117) w fun x118_1 w => S w ∧ (CK Try.prog (Value.func (Fn.func 56) #[] #[]) [x113] w fun x114_1 w => S w ∧ (CK Try.prog (Value.func (Fn.func 57) #[] #[]) [x118_1] w fun x119_1 w => S w ∧ (HK Try.prog S (nilCk (ρ 0)) fun x120_1 => HK Try.prog S (do pure (Next.value (← Instr.fieldAt 69 x120_1 2))) fun x121_1 => UK Try.prog (Instr.storeAt 66 x121_1 x114_1) w fun _ w => S w ∧ (HK Try.prog S (nilCk (ρ 0)) fun x122_1 => HK Try.prog S (do pure (Next.value (← Instr.fieldAt 69 x122_1 3))) fun x123_1 => UK Try.prog (Instr.storeAt 67 x123_1 x119_1) w fun _ w => S w ∧ (K Exit.normal (up (up (up (up (up (up (up (up (up (up (up (up (up (up (up (up ρ 108 (ρ 0)) 109 (ρ 0)) 110 (ρ 0)) 111 x111) 112 x112) 115 (ρ 0)) 116 x116) 117 x117) 113 x113) 118 x118_1) 114 x114_1) 119 x119_1) 120 x120_1) 121 x121_1) 122 x122_1) 123 x123_1) w)))))))) ∧ (VK Try.prog (Instr.loadAt 67 x117) w fun x118_2 w => S w ∧ (VK Try.prog (Instr.loadAt 66 x112) w fun x113_1 w => S w ∧ (CK Try.prog (Value.func (Fn.func 56) #[] #[]) [x113_1] w fun x114_2 w => S w ∧ (CK Try.prog (Value.func (Fn.func 57) #[] #[]) [x118_2] w fun x119_2 w => S w ∧ (HK Try.prog S (nilCk (ρ 0)) fun x120_2 => HK Try.prog S (do pure (Next.value (← Instr.fieldAt 69 x120_2 2))) fun x121_2 => UK Try.prog (Instr.storeAt 66 x121_2 x114_2) w fun _ w => S w ∧ (HK Try.prog S (nilCk (ρ 0)) fun x122_2 => HK Try.prog S (do pure (Next.value (← Instr.fieldAt 69 x122_2 3))) fun x123_2 => UK Try.prog (Instr.storeAt 67 x123_2 x119_2) w fun _ w => S w ∧ (K Exit.normal (up (up (up (up (up (up (up (up (up (up (up (up (up (up (up (up ρ 108 (ρ 0)) 109 (ρ 0)) 110 (ρ 0)) 111 x111) 112 x112) 115 (ρ 0)) 116 x116) 117 x117) 118 x118_2) 113 x113_1) 114 x114_2) 119 x119_2) 120 x120_2) 121 x121_2) 122 x122_2) 123 x123_2) w)))))))
theorem dispatcherlaw14_play_does_R10_held {D : List Deferred} (S : World → Prop) {K : Exit → Sl → World → Prop} {ρ : Sl} {w : World} (hS : S { w with drawn := w.drawn + 1 }) (h : dispatcherlaw14_play_does_R10_H S K ρ { w with drawn := w.drawn + 1 }) : W ⟨none, D⟩ Try.prog 150 dispatcherlaw14_play_does_R10 K ρ w := by
  have e : dispatcherlaw14_play_does_R10 = .region (idOf dispatcherlaw14_play_does_R10) dispatcherlaw14_play_does_R10_ops true := by kernel_rfl
  have q : sxd Try.prog S dispatcherlaw14_play_does_R10_ops (K .normal) (Pd.take 0 (Pd.take 1 (Pd.take 2 (Pd.take 3 (Pd.take 4 (Pd.take 7 (Pd.take 8 (Pd.take 9 (Pd.two false false 5 10 (Pd.two false false 6 10 (Pd.only false 10 (Pd.only false 11 (Pd.take 12 (Pd.take 13 (Pd.only false 14 (Pd.take 15 (Pd.take 16 (Pd.only false 17 Pd.done)))))))) (Pd.only false 6 (Pd.only false 11 (Pd.take 12 (Pd.take 13 (Pd.only false 14 (Pd.take 15 (Pd.take 16 (Pd.only false 17 Pd.done))))))))) (Pd.only false 5 (Pd.only false 6 (Pd.only false 11 (Pd.take 12 (Pd.take 13 (Pd.only false 14 (Pd.take 15 (Pd.take 16 (Pd.only false 17 Pd.done)))))))))))))))))) ρ { w with drawn := w.drawn + 1 } = dispatcherlaw14_play_does_R10_H S K ρ { w with drawn := w.drawn + 1 } := by kernel_rfl
  rw [e]
  exact W_pland S (Pd.take 0 (Pd.take 1 (Pd.take 2 (Pd.take 3 (Pd.take 4 (Pd.take 7 (Pd.take 8 (Pd.take 9 (Pd.two false false 5 10 (Pd.two false false 6 10 (Pd.only false 10 (Pd.only false 11 (Pd.take 12 (Pd.take 13 (Pd.only false 14 (Pd.take 15 (Pd.take 16 (Pd.only false 17 Pd.done)))))))) (Pd.only false 6 (Pd.only false 11 (Pd.take 12 (Pd.take 13 (Pd.only false 14 (Pd.take 15 (Pd.take 16 (Pd.only false 17 Pd.done))))))))) (Pd.only false 5 (Pd.only false 6 (Pd.only false 11 (Pd.take 12 (Pd.take 13 (Pd.only false 14 (Pd.take 15 (Pd.take 16 (Pd.only false 17 Pd.done)))))))))))))))))) (by kernel_rfl) (by kernel_rfl) (by kernel_rfl) (by kernel_rfl) hS (Eq.mpr q h)
noncomputable def dispatcherlaw14_play_does_R11_F (z : At) (K : Exit → Sl → World → Prop) (ρ : Sl) (w : World) : Prop :=
  VK Try.prog (Instr.fieldAt 48 (ρ 3) 1) w fun x125 w => VK Try.prog (Instr.fieldAt 39 x125 1) w fun x126 w => VK Try.prog (Instr.loadAt 3 x126) w fun x127 w => VK Try.prog (Instr.fieldAt 48 (ρ 3) 1) w fun x128 w => VK Try.prog (Instr.fieldAt 39 x128 3) w fun x129 w => VK Try.prog (Instr.loadAt 3 x129) w fun x130 w => CK Try.prog (Value.func (Fn.func 45) #[] #[]) [(ρ 5), x127, x130] w fun x131 w => VK Try.prog (Instr.fieldAt 48 (ρ 3) 2) w fun x133 w => VK Try.prog (Instr.fieldAt 24 x133 1) w fun x134 w => VK Try.prog (Instr.loadAt 3 x134) w fun x135 w => VK Try.prog (Instr.build 24 [(1, x135), (2, (Value.int .i64 1099511627776)), (3, (Value.int .i64 (-1))), (4, (Value.int .i64 (-1)))].toArray) w fun x136 w => CK Try.prog (Value.func (Fn.func 14) #[] #[]) [(ρ 6), x136] w fun x137 w => NK Try.prog (ρ 0) w fun x139 w => VK Try.prog (Instr.fieldAt 69 x139 0) w fun x140 w => VK Try.prog (Instr.loadAt 27 x140) w fun x141 w => BK Try.prog .neq 27 (.tmp 141) (.const (Value.pointer none)) x141 (Value.pointer none) w fun x142 w => MG Try.prog x142 true (ρ 0) w fun x144 w => NG Try.prog x142 true x144 w fun x145 w => VG Try.prog x142 true (Instr.fieldAt 69 x145 1) w fun x146 w => VG Try.prog x142 true (Instr.loadAt 28 x146) w fun x147 w => BG Try.prog x142 true .neq 28 (.tmp 147) (.const (Value.pointer none)) x147 (Value.pointer none) w fun x148 w => PK Try.prog x142 x148 (Value.bool false) w fun x149 w => K .ret (up (up (up (up (up (up (up (up (up (up (up (up (up (up (up (up (up (up (up (up (up (up (up (up (up (up (up ρ 124 (ρ 5)) 125 x125) 126 x126) 127 x127) 128 x128) 129 x129) 130 x130) 131 x131) 132 (ρ 6)) 133 x133) 134 x134) 135 x135) 136 x136) 137 x137) 138 (ρ 0)) 139 x139) 140 x140) 141 x141) 142 x142) 143 x142) 144 x144) 145 x145) 146 x146) 147 x147) 148 x148) 149 x149) 4 x149) w
theorem dispatcherlaw14_play_does_R11_eq (z : At) (K : Exit → Sl → World → Prop) (ρ : Sl) (w : World) : sx z Try.prog 150 dispatcherlaw14_play_does_R11 K ρ w = dispatcherlaw14_play_does_R11_F z K ρ w := by kernel_rfl
noncomputable def dispatcherlaw14_play_does_F (a0 a1 : Value) (w : World) (R : Value → World → Prop) : Prop :=
  VK Try.prog (Instr.box 48 a1) w fun x3 w => VK Try.prog (Instr.fieldAt 48 x3 0) w fun x7 w => VK Try.prog (Instr.loadAt 5 x7) w fun x8 w => BK Try.prog .rem 5 (.tmp 8) (.const (Value.int .u8 5)) x8 (Value.int .u8 5) w fun x9 w => BK Try.prog .eql 5 (.tmp 9) (.const (Value.int .u8 0)) x9 (Value.int .u8 0) w fun x11 w => CondK x11 (sx fn_ Try.prog 150 dispatcherlaw14_play_does_R0 (blkK 0 (seqK (sx fn_ Try.prog 150 dispatcherlaw14_play_does_R1 (retK Try.prog [ResultVar.tmp 4] R)) (retK Try.prog [ResultVar.tmp 4] R))) (up (up (up (up (up (up (up (rho0 [a0, a1]) 3 x3) 4 (Value.bool false)) 7 x7) 8 x8) 9 x9) 11 x11) 10 x11) w) (BK Try.prog .eql 5 (.tmp 9) (.const (Value.int .u8 1)) x9 (Value.int .u8 1) w fun x12 w => sx fn_ Try.prog 150 dispatcherlaw14_play_does_R0 (blkK 0 (seqK (sx fn_ Try.prog 150 dispatcherlaw14_play_does_R1 (retK Try.prog [ResultVar.tmp 4] R)) (retK Try.prog [ResultVar.tmp 4] R))) (up (up (up (up (up (up (up (up (up (rho0 [a0, a1]) 3 x3) 4 (Value.bool false)) 7 x7) 8 x8) 9 x9) 11 x11) 10 x11) 12 x12) 10 x12) w)
theorem dispatcherlaw14_play_does_eq (a0 a1 : Value) (w : World) (R : Value → World → Prop) : sx fn_ Try.prog 150 dispatcherlaw14_play_does_b (retK Try.prog Try.f30.results.toList R) (rho0 [a0, a1]) w = dispatcherlaw14_play_does_F a0 a1 w R := by kernel_rfl
theorem dispatcherlaw14_play_does_calls {a0 a1 : Value} {w : World} {R : Value → World → Prop} (h : dispatcherlaw14_play_does_F a0 a1 w R) : Calls Try.prog 30 #[a0, a1] w fun e w' => ∃ v, e = .returned v ∧ R v w' :=
  Go.X.calls_of_sx (n := 150) (c := dispatcherlaw14_play_does_b) Try.func30 (by kernel_rfl) (by kernel_rfl) (Nat.le_of_ble_eq_true rfl) (by kernel_rfl) (Eq.mpr (dispatcherlaw14_play_does_eq a0 a1 w R) h)
noncomputable def dispatcherref14_Posted_May_b : Code := (Try.f31.body).getD .skip
noncomputable def dispatcherref14_Posted_May_F (a0 a1 a2 a3 : Value) (w : World) (R : Value → World → Prop) : Prop :=
  CK Try.prog (Value.func (Fn.func 33) #[] #[]) [a0, a2, a3] w fun x15 w => VK Try.prog (Instr.extract x15 0) w fun x16 w => VK Try.prog (Instr.extract x15 1) w fun x17 w => VK Try.prog (Instr.alloc 24 true (.tuple #[])) w fun x9 w => UK Try.prog (Instr.storeAt 24 x9 x16) w fun _ w => VK Try.prog (Op.unary UnOp.not x17) w fun x19 w => VG Try.prog x19 false (Instr.fieldAt 24 x9 6) w fun x21 w => VG Try.prog x19 false (Instr.loadAt 4 x21) w fun x22 w => PK Try.prog x19 (Value.bool true) x22 w fun x23 w => CondK x23 (R (Value.slice none 0 0) w) (VK Try.prog (Instr.loadAt 24 x9) w fun x26 w => CK Try.prog (Value.func (Fn.func 58) #[] #[]) [a0, a1, x26, (Value.bool false)] w fun x27 w => R x27 w)
theorem dispatcherref14_Posted_May_eq (a0 a1 a2 a3 : Value) (w : World) (R : Value → World → Prop) : sx fn_ Try.prog 28 dispatcherref14_Posted_May_b (retK Try.prog Try.f31.results.toList R) (rho0 [a0, a1, a2, a3]) w = dispatcherref14_Posted_May_F a0 a1 a2 a3 w R := by kernel_rfl
theorem dispatcherref14_Posted_May_calls {a0 a1 a2 a3 : Value} {w : World} {R : Value → World → Prop} (h : dispatcherref14_Posted_May_F a0 a1 a2 a3 w R) : Calls Try.prog 31 #[a0, a1, a2, a3] w fun e w' => ∃ v, e = .returned v ∧ R v w' :=
  Go.X.calls_of_sx (n := 28) (c := dispatcherref14_Posted_May_b) Try.func31 (by kernel_rfl) (by kernel_rfl) (Nat.le_of_ble_eq_true rfl) (by kernel_rfl) (Eq.mpr (dispatcherref14_Posted_May_eq a0 a1 a2 a3 w R) h)
noncomputable def dispatcherref14_Posted_Probe_b : Code := (Try.f32.body).getD .skip
noncomputable def dispatcherref14_Posted_Probe_F (a0 a1 a2 : Value) (w : World) (R : Value → World → Prop) : Prop :=
  VK Try.prog (Instr.box 24 a2) w fun x5 w => VK Try.prog (Instr.loadAt 24 x5) w fun x9 w => CK Try.prog (Value.func (Fn.func 58) #[] #[]) [a0, a1, x9, (Value.bool true)] w fun x10 w => R x10 w
theorem dispatcherref14_Posted_Probe_eq (a0 a1 a2 : Value) (w : World) (R : Value → World → Prop) : sx fn_ Try.prog 11 dispatcherref14_Posted_Probe_b (retK Try.prog Try.f32.results.toList R) (rho0 [a0, a1, a2]) w = dispatcherref14_Posted_Probe_F a0 a1 a2 w R := by kernel_rfl
theorem dispatcherref14_Posted_Probe_calls {a0 a1 a2 : Value} {w : World} {R : Value → World → Prop} (h : dispatcherref14_Posted_Probe_F a0 a1 a2 w R) : Calls Try.prog 32 #[a0, a1, a2] w fun e w' => ∃ v, e = .returned v ∧ R v w' :=
  Go.X.calls_of_sx (n := 11) (c := dispatcherref14_Posted_Probe_b) Try.func32 (by kernel_rfl) (by kernel_rfl) (Nat.le_of_ble_eq_true rfl) (by kernel_rfl) (Eq.mpr (dispatcherref14_Posted_Probe_eq a0 a1 a2 w R) h)
noncomputable def dispatcherref14_Posted_At_b : Code := (Try.f33.body).getD .skip
noncomputable def dispatcherref14_Posted_At_L0 : Code := cAt [1, 0, 1, 0, 0] dispatcherref14_Posted_At_b
noncomputable def dispatcherref14_Posted_At_R1 : Code := cAt [1, 1] dispatcherref14_Posted_At_b
noncomputable def dispatcherref14_Posted_At_R2 : Code := cAt [1, 0, 1, 0, 0, 1, 0, 0, 1] dispatcherref14_Posted_At_b
noncomputable def dispatcherref14_Posted_At_R3 : Code := cAt [1, 0, 1, 0, 0, 1, 1] dispatcherref14_Posted_At_b
noncomputable def dispatcherref14_Posted_At_L0_F (z : At) (K : Exit → Sl → World → Prop) (ρ : Sl) (w : World) : Prop :=
  NK Try.prog (ρ 0) w fun x11 w => VK Try.prog (Instr.fieldAt 71 x11 0) w fun x12 w => VK Try.prog (Instr.loadAt 41 x12) w fun x13 w => IK Try.prog .len #[41] 3 [false] [x13] w fun x14 w => BK Try.prog .lss 3 (.tmp 9) (.tmp 14) (ρ 8) x14 w fun x15 w => CondK x15 (NK Try.prog (ρ 0) w fun x19 w => VK Try.prog (Instr.fieldAt 71 x19 0) w fun x20 w => VK Try.prog (Instr.loadAt 41 x20) w fun x21 w => VK Try.prog (Instr.indexAt 41 x21 (ρ 8)) w fun x23 w => VK Try.prog (Instr.fieldAt 24 x23 1) w fun x24 w => VK Try.prog (Instr.loadAt 3 x24) w fun x25 w => BK Try.prog .eql 3 (.tmp 25) (.tmp 26) x25 (ρ 1) w fun x27 w => MG Try.prog x27 true (ρ 0) w fun x29 w => NG Try.prog x27 true x29 w fun x30 w => VG Try.prog x27 true (Instr.fieldAt 71 x30 0) w fun x31 w => VG Try.prog x27 true (Instr.loadAt 41 x31) w fun x32 w => MG Try.prog x27 true (ρ 8) w fun x33 w => VG Try.prog x27 true (Instr.indexAt 41 x32 x33) w fun x34 w => VG Try.prog x27 true (Instr.fieldAt 24 x34 2) w fun x35 w => VG Try.prog x27 true (Instr.loadAt 3 x35) w fun x36 w => MG Try.prog x27 true (ρ 2) w fun x37 w => BG Try.prog x27 true .eql 3 (.tmp 36) (.tmp 37) x36 x37 w fun x38 w => PK Try.prog x27 x38 (Value.bool false) w fun x39 w => sx z Try.prog 48 dispatcherref14_Posted_At_R2 (blkK 1 (seqK (sx z Try.prog 48 dispatcherref14_Posted_At_R3 K) K)) (up (up (up (up (up (up (up (up (up (up (up (up (up (up (up (up (up (up (up (up (up (up (up (up (up (up (up (up (up ρ 9 (ρ 8)) 10 (ρ 0)) 11 x11) 12 x12) 13 x13) 14 x14) 15 x15) 18 (ρ 0)) 19 x19) 20 x20) 21 x21) 22 (ρ 8)) 23 x23) 24 x24) 25 x25) 26 (ρ 1)) 27 x27) 28 x27) 29 x29) 30 x30) 31 x31) 32 x32) 33 x33) 34 x34) 35 x35) 36 x36) 37 x37) 38 x38) 39 x39) w) (K (.exit 0) (up (up (up (up (up (up (up ρ 9 (ρ 8)) 10 (ρ 0)) 11 x11) 12 x12) 13 x13) 14 x14) 15 x15) w)
theorem dispatcherref14_Posted_At_L0_eq (z : At) (K : Exit → Sl → World → Prop) (ρ : Sl) (w : World) : sx z Try.prog 48 dispatcherref14_Posted_At_L0 K ρ w = dispatcherref14_Posted_At_L0_F z K ρ w := by kernel_rfl
theorem dispatcherref14_Posted_At_L0_ok : dstOk 48 dispatcherref14_Posted_At_L0 = true := by kernel_rfl
noncomputable def dispatcherref14_Posted_At_R1_F (z : At) (K : Exit → Sl → World → Prop) (ρ : Sl) (w : World) : Prop :=
  VK Try.prog (Instr.build 24 [].toArray) w fun x47 w => UK Try.prog (Instr.storeAt 24 (ρ 6) x47) w fun _ w => K .ret (up (up ρ 47 x47) 7 (Value.bool false)) w
theorem dispatcherref14_Posted_At_R1_eq (z : At) (K : Exit → Sl → World → Prop) (ρ : Sl) (w : World) : sx z Try.prog 48 dispatcherref14_Posted_At_R1 K ρ w = dispatcherref14_Posted_At_R1_F z K ρ w := by kernel_rfl
noncomputable def dispatcherref14_Posted_At_R2_F (z : At) (K : Exit → Sl → World → Prop) (ρ : Sl) (w : World) : Prop :=
  CondK (ρ 39) (NK Try.prog (ρ 0) w fun x41 w => VK Try.prog (Instr.fieldAt 71 x41 0) w fun x42 w => VK Try.prog (Instr.loadAt 41 x42) w fun x43 w => VK Try.prog (Instr.indexAt 41 x43 (ρ 8)) w fun x45 w => VK Try.prog (Instr.loadAt 24 x45) w fun x46 w => UK Try.prog (Instr.storeAt 24 (ρ 6) x46) w fun _ w => K .ret (up (up (up (up (up (up (up (up ρ 40 (ρ 0)) 41 x41) 42 x42) 43 x43) 44 (ρ 8)) 45 x45) 46 x46) 7 (Value.bool true)) w) (K .normal ρ w)
theorem dispatcherref14_Posted_At_R2_eq (z : At) (K : Exit → Sl → World → Prop) (ρ : Sl) (w : World) : sx z Try.prog 48 dispatcherref14_Posted_At_R2 K ρ w = dispatcherref14_Posted_At_R2_F z K ρ w := by kernel_rfl
noncomputable def dispatcherref14_Posted_At_R3_F (z : At) (K : Exit → Sl → World → Prop) (ρ : Sl) (w : World) : Prop :=
  BK Try.prog .add 3 (.tmp 16) (.const (Value.int .i64 1)) (ρ 8) (Value.int .i64 1) w fun x17 w => K .normal (up (up (up ρ 16 (ρ 8)) 17 x17) 8 x17) w
theorem dispatcherref14_Posted_At_R3_eq (z : At) (K : Exit → Sl → World → Prop) (ρ : Sl) (w : World) : sx z Try.prog 48 dispatcherref14_Posted_At_R3 K ρ w = dispatcherref14_Posted_At_R3_F z K ρ w := by kernel_rfl
noncomputable def dispatcherref14_Posted_At_F (a0 a1 a2 : Value) (w : World) (R : Value → World → Prop) : Prop :=
  VK Try.prog (Instr.alloc 24 true (.tuple #[])) w fun x6 w => W fn_ Try.prog 48 (Code.loop dispatcherref14_Posted_At_L0) (blkK 0 (seqK (sx fn_ Try.prog 48 dispatcherref14_Posted_At_R1 (retK Try.prog [ResultVar.cell 6 24, ResultVar.tmp 7] R)) (retK Try.prog [ResultVar.cell 6 24, ResultVar.tmp 7] R))) (up (up (up (rho0 [a0, a1, a2]) 6 x6) 7 (Value.bool false)) 8 (Value.int .i64 0)) w
theorem dispatcherref14_Posted_At_eq (a0 a1 a2 : Value) (w : World) (R : Value → World → Prop) : sx fn_ Try.prog 48 dispatcherref14_Posted_At_b (retK Try.prog Try.f33.results.toList R) (rho0 [a0, a1, a2]) w = dispatcherref14_Posted_At_F a0 a1 a2 w R := by kernel_rfl
theorem dispatcherref14_Posted_At_calls {a0 a1 a2 : Value} {w : World} {R : Value → World → Prop} (h : dispatcherref14_Posted_At_F a0 a1 a2 w R) : Calls Try.prog 33 #[a0, a1, a2] w fun e w' => ∃ v, e = .returned v ∧ R v w' :=
  Go.X.calls_of_sx (n := 48) (c := dispatcherref14_Posted_At_b) Try.func33 (by kernel_rfl) (by kernel_rfl) (Nat.le_of_ble_eq_true rfl) (by kernel_rfl) (Eq.mpr (dispatcherref14_Posted_At_eq a0 a1 a2 w R) h)
noncomputable def dispatcherref14_Posted_Waiting_b : Code := (Try.f35.body).getD .skip
noncomputable def dispatcherref14_Posted_Waiting_L0 : Code := cAt [1, 1, 0, 1, 0, 0] dispatcherref14_Posted_Waiting_b
noncomputable def dispatcherref14_Posted_Waiting_R1 : Code := cAt [1, 1, 1] dispatcherref14_Posted_Waiting_b
noncomputable def dispatcherref14_Posted_Waiting_R2 : Code := cAt [1, 1, 0, 1, 0, 0, 1, 1] dispatcherref14_Posted_Waiting_b
noncomputable def dispatcherref14_Posted_Waiting_R3 : Code := cAt [1, 1, 0, 1, 0, 0, 1, 0, 0, 1] dispatcherref14_Posted_Waiting_b
noncomputable def dispatcherref14_Posted_Waiting_L0_F (z : At) (K : Exit → Sl → World → Prop) (ρ : Sl) (w : World) : Prop :=
  NK Try.prog (ρ 0) w fun x9 w => VK Try.prog (Instr.fieldAt 71 x9 0) w fun x10 w => VK Try.prog (Instr.loadAt 41 x10) w fun x11 w => IK Try.prog .len #[41] 3 [false] [x11] w fun x12 w => BK Try.prog .lss 3 (.tmp 7) (.tmp 12) (ρ 6) x12 w fun x13 w => CondK x13 (NK Try.prog (ρ 0) w fun x17 w => VK Try.prog (Instr.fieldAt 71 x17 0) w fun x18 w => VK Try.prog (Instr.loadAt 41 x18) w fun x19 w => VK Try.prog (Instr.indexAt 41 x19 (ρ 6)) w fun x21 w => VK Try.prog (Instr.fieldAt 24 x21 1) w fun x22 w => VK Try.prog (Instr.loadAt 3 x22) w fun x23 w => BK Try.prog .eql 3 (.tmp 23) (.tmp 24) x23 (ρ 1) w fun x25 w => MG Try.prog x25 true (ρ 0) w fun x27 w => NG Try.prog x25 true x27 w fun x28 w => VG Try.prog x25 true (Instr.fieldAt 71 x28 0) w fun x29 w => VG Try.prog x25 true (Instr.loadAt 41 x29) w fun x30 w => MG Try.prog x25 true (ρ 6) w fun x31 w => VG Try.prog x25 true (Instr.indexAt 41 x30 x31) w fun x32 w => VG Try.prog x25 true (Instr.fieldAt 24 x32 6) w fun x33 w => VG Try.prog x25 true (Instr.loadAt 4 x33) w fun x34 w => VG Try.prog x25 true (Op.unary UnOp.not x34) w fun x35 w => PK Try.prog x25 x35 (Value.bool false) w fun x36 w => sx z Try.prog 48 dispatcherref14_Posted_Waiting_R3 (blkK 1 (seqK (sx z Try.prog 48 dispatcherref14_Posted_Waiting_R2 K) K)) (up (up (up (up (up (up (up (up (up (up (up (up (up (up (up (up (up (up (up (up (up (up (up (up (up (up (up (up ρ 7 (ρ 6)) 8 (ρ 0)) 9 x9) 10 x10) 11 x11) 12 x12) 13 x13) 16 (ρ 0)) 17 x17) 18 x18) 19 x19) 20 (ρ 6)) 21 x21) 22 x22) 23 x23) 24 (ρ 1)) 25 x25) 26 x25) 27 x27) 28 x28) 29 x29) 30 x30) 31 x31) 32 x32) 33 x33) 34 x34) 35 x35) 36 x36) w) (K (.exit 0) (up (up (up (up (up (up (up ρ 7 (ρ 6)) 8 (ρ 0)) 9 x9) 10 x10) 11 x11) 12 x12) 13 x13) w)
theorem dispatcherref14_Posted_Waiting_L0_eq (z : At) (K : Exit → Sl → World → Prop) (ρ : Sl) (w : World) : sx z Try.prog 48 dispatcherref14_Posted_Waiting_L0 K ρ w = dispatcherref14_Posted_Waiting_L0_F z K ρ w := by kernel_rfl
theorem dispatcherref14_Posted_Waiting_L0_ok : dstOk 48 dispatcherref14_Posted_Waiting_L0 = true := by kernel_rfl
noncomputable def dispatcherref14_Posted_Waiting_R1_F (z : At) (K : Exit → Sl → World → Prop) (ρ : Sl) (w : World) : Prop :=
  K .ret (up (up ρ 47 (ρ 5)) 4 (ρ 5)) w
theorem dispatcherref14_Posted_Waiting_R1_eq (z : At) (K : Exit → Sl → World → Prop) (ρ : Sl) (w : World) : sx z Try.prog 48 dispatcherref14_Posted_Waiting_R1 K ρ w = dispatcherref14_Posted_Waiting_R1_F z K ρ w := by kernel_rfl
noncomputable def dispatcherref14_Posted_Waiting_R2_F (z : At) (K : Exit → Sl → World → Prop) (ρ : Sl) (w : World) : Prop :=
  BK Try.prog .add 3 (.tmp 14) (.const (Value.int .i64 1)) (ρ 6) (Value.int .i64 1) w fun x15 w => K .normal (up (up (up ρ 14 (ρ 6)) 15 x15) 6 x15) w
theorem dispatcherref14_Posted_Waiting_R2_eq (z : At) (K : Exit → Sl → World → Prop) (ρ : Sl) (w : World) : sx z Try.prog 48 dispatcherref14_Posted_Waiting_R2 K ρ w = dispatcherref14_Posted_Waiting_R2_F z K ρ w := by kernel_rfl
noncomputable def dispatcherref14_Posted_Waiting_R3_F (z : At) (K : Exit → Sl → World → Prop) (ρ : Sl) (w : World) : Prop :=
  CondK (ρ 36) (NK Try.prog (ρ 0) w fun x39 w => VK Try.prog (Instr.fieldAt 71 x39 0) w fun x40 w => VK Try.prog (Instr.loadAt 41 x40) w fun x41 w => VK Try.prog (Instr.indexAt 41 x41 (ρ 6)) w fun x43 w => VK Try.prog (Instr.loadAt 24 x43) w fun x44 w => VK Try.prog (Instr.buildSlice 41 1 [(0, x44)].toArray) w fun x45 w => IK Try.prog .append #[41, 41] 41 [false, false] [(ρ 5), x45] w fun x46 w => K .normal (up (up (up (up (up (up (up (up (up (up (up ρ 37 (ρ 5)) 38 (ρ 0)) 39 x39) 40 x40) 41 x41) 42 (ρ 6)) 43 x43) 44 x44) 45 x45) 46 x46) 5 x46) w) (K .normal ρ w)
theorem dispatcherref14_Posted_Waiting_R3_eq (z : At) (K : Exit → Sl → World → Prop) (ρ : Sl) (w : World) : sx z Try.prog 48 dispatcherref14_Posted_Waiting_R3 K ρ w = dispatcherref14_Posted_Waiting_R3_F z K ρ w := by kernel_rfl
noncomputable def dispatcherref14_Posted_Waiting_F (a0 a1 : Value) (w : World) (R : Value → World → Prop) : Prop :=
  W fn_ Try.prog 48 (Code.loop dispatcherref14_Posted_Waiting_L0) (blkK 0 (seqK (sx fn_ Try.prog 48 dispatcherref14_Posted_Waiting_R1 (retK Try.prog [ResultVar.tmp 4] R)) (retK Try.prog [ResultVar.tmp 4] R))) (up (up (up (rho0 [a0, a1]) 4 (Value.slice none 0 0)) 5 (Value.slice none 0 0)) 6 (Value.int .i64 0)) w
theorem dispatcherref14_Posted_Waiting_eq (a0 a1 : Value) (w : World) (R : Value → World → Prop) : sx fn_ Try.prog 48 dispatcherref14_Posted_Waiting_b (retK Try.prog Try.f35.results.toList R) (rho0 [a0, a1]) w = dispatcherref14_Posted_Waiting_F a0 a1 w R := by kernel_rfl
theorem dispatcherref14_Posted_Waiting_calls {a0 a1 : Value} {w : World} {R : Value → World → Prop} (h : dispatcherref14_Posted_Waiting_F a0 a1 w R) : Calls Try.prog 35 #[a0, a1] w fun e w' => ∃ v, e = .returned v ∧ R v w' :=
  Go.X.calls_of_sx (n := 48) (c := dispatcherref14_Posted_Waiting_b) Try.func35 (by kernel_rfl) (by kernel_rfl) (Nat.le_of_ble_eq_true rfl) (by kernel_rfl) (Eq.mpr (dispatcherref14_Posted_Waiting_eq a0 a1 w R) h)
noncomputable def dispatcherref14_Fits_b : Code := (Try.f38.body).getD .skip
noncomputable def dispatcherref14_Fits_F (a0 a1 : Value) (w : World) (R : Value → World → Prop) : Prop :=
  VK Try.prog (Instr.box 24 a0) w fun x2 w => VK Try.prog (Instr.box 39 a1) w fun x3 w => VK Try.prog (Instr.fieldAt 24 x2 0) w fun x5 w => VK Try.prog (Instr.loadAt 9 x5) w fun x6 w => VK Try.prog (Instr.fieldAt 39 x3 0) w fun x7 w => VK Try.prog (Instr.loadAt 9 x7) w fun x8 w => BK Try.prog .neq 9 (.tmp 6) (.tmp 8) x6 x8 w fun x9 w => VG Try.prog x9 false (Instr.fieldAt 24 x2 1) w fun x11 w => VG Try.prog x9 false (Instr.loadAt 3 x11) w fun x12 w => VG Try.prog x9 false (Instr.fieldAt 39 x3 2) w fun x13 w => VG Try.prog x9 false (Instr.loadAt 3 x13) w fun x14 w => BG Try.prog x9 false .neq 3 (.tmp 12) (.tmp 14) x12 x14 w fun x15 w => PK Try.prog x9 (Value.bool true) x15 w fun x16 w => CondK x16 (R (Value.bool false) w) (VK Try.prog (Instr.fieldAt 24 x2 3) w fun x17 w => VK Try.prog (Instr.loadAt 3 x17) w fun x18 w => BK Try.prog .eql 3 (.tmp 18) (.const (Value.int .i64 (-1))) x18 (Value.int .i64 (-1)) w fun x19 w => VG Try.prog x19 false (Instr.fieldAt 24 x2 3) w fun x21 w => VG Try.prog x19 false (Instr.loadAt 3 x21) w fun x22 w => VG Try.prog x19 false (Instr.fieldAt 39 x3 1) w fun x23 w => VG Try.prog x19 false (Instr.loadAt 3 x23) w fun x24 w => BG Try.prog x19 false .eql 3 (.tmp 22) (.tmp 24) x22 x24 w fun x25 w => PK Try.prog x19 (Value.bool true) x25 w fun x26 w => VG Try.prog x26 true (Instr.fieldAt 24 x2 4) w fun x28 w => VG Try.prog x26 true (Instr.loadAt 3 x28) w fun x29 w => BG Try.prog x26 true .eql 3 (.tmp 29) (.const (Value.int .i64 (-1))) x29 (Value.int .i64 (-1)) w fun x30 w => MG Try.prog x26 true x30 w fun x31 w => VG Try.prog x31 false (Instr.fieldAt 24 x2 4) w fun x32 w => VG Try.prog x31 false (Instr.loadAt 3 x32) w fun x33 w => VG Try.prog x31 false (Instr.fieldAt 39 x3 4) w fun x34 w => VG Try.prog x31 false (Instr.loadAt 3 x34) w fun x35 w => BG Try.prog x31 false .eql 3 (.tmp 33) (.tmp 35) x33 x35 w fun x36 w => PG Try.prog x26 true x31 (Value.bool true) x36 w fun x37 w => PK Try.prog x26 x37 (Value.bool false) w fun x38 w => R x38 w)
theorem dispatcherref14_Fits_eq (a0 a1 : Value) (w : World) (R : Value → World → Prop) : sx fn_ Try.prog 39 dispatcherref14_Fits_b (retK Try.prog Try.f38.results.toList R) (rho0 [a0, a1]) w = dispatcherref14_Fits_F a0 a1 w R := by kernel_rfl
theorem dispatcherref14_Fits_calls {a0 a1 : Value} {w : World} {R : Value → World → Prop} (h : dispatcherref14_Fits_F a0 a1 w R) : Calls Try.prog 38 #[a0, a1] w fun e w' => ∃ v, e = .returned v ∧ R v w' :=
  Go.X.calls_of_sx (n := 39) (c := dispatcherref14_Fits_b) Try.func38 (by kernel_rfl) (by kernel_rfl) (Nat.le_of_ble_eq_true rfl) (by kernel_rfl) (Eq.mpr (dispatcherref14_Fits_eq a0 a1 w R) h)
noncomputable def posted_free_b : Code := (Try.f39.body).getD .skip
noncomputable def posted_free_L0 : Code := cAt [1, 1, 1, 0, 1, 0, 0] posted_free_b
noncomputable def posted_free_R1 : Code := cAt [1, 1, 1, 1] posted_free_b
noncomputable def posted_free_R2 : Code := cAt [1, 1, 1, 0, 1, 0, 0, 1, 1, 1] posted_free_b
noncomputable def posted_free_R3 : Code := cAt [1, 1, 1, 0, 1, 0, 0, 1, 1, 0, 0, 1, 1, 1] posted_free_b
noncomputable def posted_free_L0_F (z : At) (K : Exit → Sl → World → Prop) (ρ : Sl) (w : World) : Prop :=
  BK Try.prog .lss 3 (.tmp 23) (.tmp 22) (ρ 23) (ρ 22) w fun x24 w => CondK x24 (VK Try.prog (Instr.indexAt 107 (ρ 21) (ρ 23)) w fun x25 w => VK Try.prog (Instr.loadAt 3 x25) w fun x26 w => VK Try.prog (Instr.fieldAt 24 (ρ 4) 3) w fun x27 w => VK Try.prog (Instr.loadAt 3 x27) w fun x28 w => BK Try.prog .neq 3 (.tmp 28) (.const (Value.int .i64 (-1))) x28 (Value.int .i64 (-1)) w fun x29 w => VG Try.prog x29 true (Instr.fieldAt 24 (ρ 4) 3) w fun x31 w => VG Try.prog x29 true (Instr.loadAt 3 x31) w fun x32 w => MG Try.prog x29 true x26 w fun x33 w => BG Try.prog x29 true .neq 3 (.tmp 32) (.tmp 33) x32 x33 w fun x34 w => PK Try.prog x29 x34 (Value.bool false) w fun x35 w => CondK x35 (sx z Try.prog 62 posted_free_R2 K (up (up (up (up (up (up (up (up (up (up (up (up (up ρ 24 x24) 25 x25) 26 x26) 10 x26) 27 x27) 28 x28) 29 x29) 30 x29) 31 x31) 32 x32) 33 x33) 34 x34) 35 x35) w) (VK Try.prog (Instr.fieldAt 24 (ρ 4) 0) w fun x38 w => VK Try.prog (Instr.loadAt 9 x38) w fun x39 w => VK Try.prog (Instr.fieldAt 24 (ρ 4) 1) w fun x41 w => VK Try.prog (Instr.loadAt 3 x41) w fun x42 w => VK Try.prog (Instr.fieldAt 24 (ρ 4) 4) w fun x43 w => VK Try.prog (Instr.loadAt 3 x43) w fun x44 w => CK Try.prog (Value.func (Fn.func 63) #[] #[]) [(ρ 0), x39, x26, x42, x44] w fun x45 w => VK Try.prog (Instr.extract x45 0) w fun x46 w => VK Try.prog (Instr.extract x45 1) w fun x47 w => VK Try.prog (Instr.alloc 39 true (.tuple #[])) w fun x11 w => UK Try.prog (Instr.storeAt 39 x11 x46) w fun _ w => sx z Try.prog 62 posted_free_R3 (blkK 1 (seqK (sx z Try.prog 62 posted_free_R2 K) K)) (up (up (up (up (up (up (up (up (up (up (up (up (up (up (up (up (up (up (up (up (up (up (up (up (up (up (up ρ 24 x24) 25 x25) 26 x26) 10 x26) 27 x27) 28 x28) 29 x29) 30 x29) 31 x31) 32 x32) 33 x33) 34 x34) 35 x35) 37 (ρ 0)) 38 x38) 39 x39) 40 x26) 41 x41) 42 x42) 43 x43) 44 x44) 45 x45) 36 x45) 46 x46) 47 x47) 11 x11) 12 x47) w)) (K (.exit 0) (up ρ 24 x24) w)
theorem posted_free_L0_eq (z : At) (K : Exit → Sl → World → Prop) (ρ : Sl) (w : World) : sx z Try.prog 62 posted_free_L0 K ρ w = posted_free_L0_F z K ρ w := by kernel_rfl
theorem posted_free_L0_ok : dstOk 62 posted_free_L0 = true := by kernel_rfl
noncomputable def posted_free_R1_F (z : At) (K : Exit → Sl → World → Prop) (ρ : Sl) (w : World) : Prop :=
  K .ret (up (up ρ 61 (ρ 7)) 6 (ρ 7)) w
theorem posted_free_R1_eq (z : At) (K : Exit → Sl → World → Prop) (ρ : Sl) (w : World) : sx z Try.prog 62 posted_free_R1 K ρ w = posted_free_R1_F z K ρ w := by kernel_rfl
noncomputable def posted_free_R2_F (z : At) (K : Exit → Sl → World → Prop) (ρ : Sl) (w : World) : Prop :=
  BK Try.prog .add 3 (.tmp 23) (.const (Value.int .i64 1)) (ρ 23) (Value.int .i64 1) w fun x60 w => K .normal (up (up ρ 60 x60) 23 x60) w
theorem posted_free_R2_eq (z : At) (K : Exit → Sl → World → Prop) (ρ : Sl) (w : World) : sx z Try.prog 62 posted_free_R2 K ρ w = posted_free_R2_F z K ρ w := by kernel_rfl
noncomputable def posted_free_R3_F (z : At) (K : Exit → Sl → World → Prop) (ρ : Sl) (w : World) : Prop :=
  VK Try.prog (Instr.makeFunc (Fn.func 65) [].toArray [(ρ 11)].toArray) w fun x49 w => CK Try.prog (Value.func (Fn.func 64) #[] #[]) [(ρ 8), x49] w fun x50 w => MG Try.prog (ρ 12) true x50 w fun x53 w => VG Try.prog (ρ 12) true (Op.unary UnOp.not x53) w fun x54 w => PK Try.prog (ρ 12) x54 (Value.bool false) w fun x55 w => CondK x55 (VK Try.prog (Instr.loadAt 39 (ρ 11)) w fun x57 w => VK Try.prog (Instr.buildSlice 31 1 [(0, x57)].toArray) w fun x58 w => IK Try.prog .append #[31, 31] 31 [false, false] [(ρ 7), x58] w fun x59 w => K .normal (up (up (up (up (up (up (up (up (up (up (up (up (up (up ρ 48 (ρ 8)) 49 x49) 50 x50) 13 x50) 51 (ρ 12)) 52 (ρ 12)) 53 x53) 54 x54) 55 x55) 56 (ρ 7)) 57 x57) 58 x58) 59 x59) 7 x59) w) (K .normal (up (up (up (up (up (up (up (up (up ρ 48 (ρ 8)) 49 x49) 50 x50) 13 x50) 51 (ρ 12)) 52 (ρ 12)) 53 x53) 54 x54) 55 x55) w)
theorem posted_free_R3_eq (z : At) (K : Exit → Sl → World → Prop) (ρ : Sl) (w : World) : sx z Try.prog 62 posted_free_R3 K ρ w = posted_free_R3_F z K ρ w := by kernel_rfl
noncomputable def posted_free_F (a0 a1 a2 : Value) (w : World) (R : Value → World → Prop) : Prop :=
  VK Try.prog (Instr.box 24 a1) w fun x4 w => CK Try.prog (Value.func (Fn.func 46) #[] #[]) [a2, (Value.func (Fn.func 47) #[] #[])] w fun x15 w => VK Try.prog (Instr.fieldAt 24 x4 0) w fun x17 w => VK Try.prog (Instr.loadAt 9 x17) w fun x18 w => VK Try.prog (Instr.fieldAt 24 x4 1) w fun x19 w => VK Try.prog (Instr.loadAt 3 x19) w fun x20 w => CK Try.prog (Value.func (Fn.func 62) #[] #[]) [a0, x18, x20] w fun x21 w => IK Try.prog .len #[107] 3 [false] [x21] w fun x22 w => W fn_ Try.prog 62 (Code.loop posted_free_L0) (blkK 0 (seqK (sx fn_ Try.prog 62 posted_free_R1 (retK Try.prog [ResultVar.tmp 6] R)) (retK Try.prog [ResultVar.tmp 6] R))) (up (up (up (up (up (up (up (up (up (up (up (up (up (up (rho0 [a0, a1, a2]) 4 x4) 6 (Value.slice none 0 0)) 7 (Value.slice none 0 0)) 14 a2) 15 x15) 8 x15) 16 a0) 17 x17) 18 x18) 19 x19) 20 x20) 21 x21) 22 x22) 23 (Value.int .i64 0)) w
theorem posted_free_eq (a0 a1 a2 : Value) (w : World) (R : Value → World → Prop) : sx fn_ Try.prog 62 posted_free_b (retK Try.prog Try.f39.results.toList R) (rho0 [a0, a1, a2]) w = posted_free_F a0 a1 a2 w R := by kernel_rfl
theorem posted_free_calls {a0 a1 a2 : Value} {w : World} {R : Value → World → Prop} (h : posted_free_F a0 a1 a2 w R) : Calls Try.prog 39 #[a0, a1, a2] w fun e w' => ∃ v, e = .returned v ∧ R v w' :=
  Go.X.calls_of_sx (n := 62) (c := posted_free_b) Try.func39 (by kernel_rfl) (by kernel_rfl) (Nat.le_of_ble_eq_true rfl) (by kernel_rfl) (Eq.mpr (posted_free_eq a0 a1 a2 w R) h)
noncomputable def posted_Posted_of_b : Code := (Try.f40.body).getD .skip
noncomputable def posted_Posted_of_F (a0 a1 : Value) (w : World) (R : Value → World → Prop) : Prop :=
  BK Try.prog .eql 28 (.tmp 5) (.const (Value.pointer none)) a0 (Value.pointer none) w fun x6 w => MG Try.prog x6 false a0 w fun x8 w => NG Try.prog x6 false x8 w fun x9 w => VG Try.prog x6 false (Instr.fieldAt 61 x9 0) w fun x10 w => VG Try.prog x6 false (Instr.loadAt 4 x10) w fun x11 w => VG Try.prog x6 false (Op.unary UnOp.not x11) w fun x12 w => PK Try.prog x6 (Value.bool true) x12 w fun x13 w => MG Try.prog x13 false a1 w fun x15 w => CG Try.prog x13 false (Value.func (Fn.func 41) #[] #[]) [x15, (Value.int .i64 0), (Value.int .i64 63)] w fun x16 w => VG Try.prog x13 false (Op.unary UnOp.not x16) w fun x17 w => PK Try.prog x13 (Value.bool true) x17 w fun x18 w => CondK x18 (R (Value.slice none 0 0) w) (NK Try.prog a0 w fun x21 w => VK Try.prog (Instr.fieldAt 61 x21 1) w fun x22 w => VK Try.prog (Instr.indexAt 59 x22 a1) w fun x23 w => VK Try.prog (Instr.loadAt 41 x23) w fun x24 w => R x24 w)
theorem posted_Posted_of_eq (a0 a1 : Value) (w : World) (R : Value → World → Prop) : sx fn_ Try.prog 25 posted_Posted_of_b (retK Try.prog Try.f40.results.toList R) (rho0 [a0, a1]) w = posted_Posted_of_F a0 a1 w R := by kernel_rfl
theorem posted_Posted_of_calls {a0 a1 : Value} {w : World} {R : Value → World → Prop} (h : posted_Posted_of_F a0 a1 w R) : Calls Try.prog 40 #[a0, a1] w fun e w' => ∃ v, e = .returned v ∧ R v w' :=
  Go.X.calls_of_sx (n := 25) (c := posted_Posted_of_b) Try.func40 (by kernel_rfl) (by kernel_rfl) (Nat.le_of_ble_eq_true rfl) (by kernel_rfl) (Eq.mpr (posted_Posted_of_eq a0 a1 w R) h)
noncomputable def posted_in_b : Code := (Try.f41.body).getD .skip
noncomputable def posted_in_F (a0 a1 a2 : Value) (w : World) (R : Value → World → Prop) : Prop :=
  BK Try.prog .geq 3 (.tmp 7) (.tmp 8) a0 a1 w fun x9 w => MG Try.prog x9 true a0 w fun x11 w => MG Try.prog x9 true a2 w fun x12 w => BG Try.prog x9 true .leq 3 (.tmp 11) (.tmp 12) x11 x12 w fun x13 w => PK Try.prog x9 x13 (Value.bool false) w fun x14 w => R x14 w
theorem posted_in_eq (a0 a1 a2 : Value) (w : World) (R : Value → World → Prop) : sx fn_ Try.prog 15 posted_in_b (retK Try.prog Try.f41.results.toList R) (rho0 [a0, a1, a2]) w = posted_in_F a0 a1 a2 w R := by kernel_rfl
theorem posted_in_calls {a0 a1 a2 : Value} {w : World} {R : Value → World → Prop} (h : posted_in_F a0 a1 a2 w R) : Calls Try.prog 41 #[a0, a1, a2] w fun e w' => ∃ v, e = .returned v ∧ R v w' :=
  Go.X.calls_of_sx (n := 15) (c := posted_in_b) Try.func41 (by kernel_rfl) (by kernel_rfl) (Nat.le_of_ble_eq_true rfl) (by kernel_rfl) (Eq.mpr (posted_in_eq a0 a1 a2 w R) h)
noncomputable def posted_Posted_place_b : Code := (Try.f42.body).getD .skip
noncomputable def posted_Posted_place_F (a0 a1 a2 : Value) (w : World) (R : Value → World → Prop) : Prop :=
  VK Try.prog (Instr.box 3 a2) w fun x5 w => CK Try.prog (Value.func (Fn.func 40) #[] #[]) [a0, a1] w fun x9 w => VK Try.prog (Instr.makeFunc (Fn.func 67) [].toArray [x5].toArray) w fun x10 w => CK Try.prog (Value.func (Fn.func 66) #[] #[]) [x9, x10] w fun x11 w => R x11 w
theorem posted_Posted_place_eq (a0 a1 a2 : Value) (w : World) (R : Value → World → Prop) : sx fn_ Try.prog 12 posted_Posted_place_b (retK Try.prog Try.f42.results.toList R) (rho0 [a0, a1, a2]) w = posted_Posted_place_F a0 a1 a2 w R := by kernel_rfl
theorem posted_Posted_place_calls {a0 a1 a2 : Value} {w : World} {R : Value → World → Prop} (h : posted_Posted_place_F a0 a1 a2 w R) : Calls Try.prog 42 #[a0, a1, a2] w fun e w' => ∃ v, e = .returned v ∧ R v w' :=
  Go.X.calls_of_sx (n := 12) (c := posted_Posted_place_b) Try.func42 (by kernel_rfl) (by kernel_rfl) (Nat.le_of_ble_eq_true rfl) (by kernel_rfl) (Eq.mpr (posted_Posted_place_eq a0 a1 a2 w R) h)
noncomputable def posted_Posted_Match_1_b : Code := (Try.f43.body).getD .skip
noncomputable def posted_Posted_Match_1_F (a0 a1 a2 : Value) (w : World) (R : Value → World → Prop) : Prop :=
  VK Try.prog (Instr.box 39 a0) w fun x3 w => VK Try.prog (Instr.fieldAt 39 x3 1) w fun x5 w => VK Try.prog (Instr.loadAt 3 x5) w fun x6 w => VK Try.prog (Instr.loadAt 3 a1) w fun x7 w => BK Try.prog .eql 3 (.tmp 6) (.tmp 7) x6 x7 w fun x8 w => VG Try.prog x8 true (Instr.fieldAt 39 x3 3) w fun x10 w => VG Try.prog x8 true (Instr.loadAt 3 x10) w fun x11 w => VG Try.prog x8 true (Instr.loadAt 3 a2) w fun x12 w => BG Try.prog x8 true .eql 3 (.tmp 11) (.tmp 12) x11 x12 w fun x13 w => PK Try.prog x8 x13 (Value.bool false) w fun x14 w => R x14 w
theorem posted_Posted_Match_1_eq (a0 a1 a2 : Value) (w : World) (R : Value → World → Prop) : sx fn_ Try.prog 15 posted_Posted_Match_1_b (retK Try.prog Try.f43.results.toList R) (rho0 [a0, a1, a2]) w = posted_Posted_Match_1_F a0 a1 a2 w R := by kernel_rfl
theorem posted_Posted_Match_1_calls {a0 a1 a2 : Value} {w : World} {R : Value → World → Prop} (h : posted_Posted_Match_1_F a0 a1 a2 w R) : Calls Try.prog 43 #[a0, a1, a2] w fun e w' => ∃ v, e = .returned v ∧ R v w' :=
  Go.X.calls_of_sx (n := 15) (c := posted_Posted_Match_1_b) Try.func43 (by kernel_rfl) (by kernel_rfl) (Nat.le_of_ble_eq_true rfl) (by kernel_rfl) (Eq.mpr (posted_Posted_Match_1_eq a0 a1 a2 w R) h)
noncomputable def posted_kept_posted_Receive_b : Code := (Try.f46.body).getD .skip
noncomputable def posted_kept_posted_Receive_L0 : Code := cAt [1, 1, 0, 1, 0, 0] posted_kept_posted_Receive_b
noncomputable def posted_kept_posted_Receive_R1 : Code := cAt [1, 1, 1] posted_kept_posted_Receive_b
noncomputable def posted_kept_posted_Receive_R2 : Code := cAt [1, 1, 0, 1, 0, 0, 1, 1, 1] posted_kept_posted_Receive_b
noncomputable def posted_kept_posted_Receive_L0_F (z : At) (K : Exit → Sl → World → Prop) (ρ : Sl) (w : World) : Prop :=
  BK Try.prog .lss 3 (.tmp 10) (.tmp 9) (ρ 10) (ρ 9) w fun x11 w => CondK x11 (VK Try.prog (Instr.indexAt 41 (ρ 8) (ρ 10)) w fun x12 w => VK Try.prog (Instr.loadAt 24 x12) w fun x13 w => VK Try.prog (Instr.alloc 24 true (.tuple #[])) w fun x7 w => UK Try.prog (Instr.storeAt 24 x7 x13) w fun _ w => VK Try.prog (Instr.loadAt 24 x7) w fun x15 w => CK Try.prog (ρ 1) [x15] w fun x16 w => CondK x16 (VK Try.prog (Instr.loadAt 24 x7) w fun x18 w => VK Try.prog (Instr.buildSlice 41 1 [(0, x18)].toArray) w fun x19 w => IK Try.prog .append #[41, 41] 41 [false, false] [(ρ 5), x19] w fun x20 w => sx z Try.prog 23 posted_kept_posted_Receive_R2 K (up (up (up (up (up (up (up (up (up (up (up (up ρ 11 x11) 12 x12) 13 x13) 7 x7) 14 (ρ 1)) 15 x15) 16 x16) 17 (ρ 5)) 18 x18) 19 x19) 20 x20) 5 x20) w) (sx z Try.prog 23 posted_kept_posted_Receive_R2 K (up (up (up (up (up (up (up ρ 11 x11) 12 x12) 13 x13) 7 x7) 14 (ρ 1)) 15 x15) 16 x16) w)) (K (.exit 0) (up ρ 11 x11) w)
theorem posted_kept_posted_Receive_L0_eq (z : At) (K : Exit → Sl → World → Prop) (ρ : Sl) (w : World) : sx z Try.prog 23 posted_kept_posted_Receive_L0 K ρ w = posted_kept_posted_Receive_L0_F z K ρ w := by kernel_rfl
theorem posted_kept_posted_Receive_L0_ok : dstOk 23 posted_kept_posted_Receive_L0 = true := by kernel_rfl
noncomputable def posted_kept_posted_Receive_R1_F (z : At) (K : Exit → Sl → World → Prop) (ρ : Sl) (w : World) : Prop :=
  K .ret (up (up ρ 22 (ρ 5)) 4 (ρ 5)) w
theorem posted_kept_posted_Receive_R1_eq (z : At) (K : Exit → Sl → World → Prop) (ρ : Sl) (w : World) : sx z Try.prog 23 posted_kept_posted_Receive_R1 K ρ w = posted_kept_posted_Receive_R1_F z K ρ w := by kernel_rfl
noncomputable def posted_kept_posted_Receive_R2_F (z : At) (K : Exit → Sl → World → Prop) (ρ : Sl) (w : World) : Prop :=
  BK Try.prog .add 3 (.tmp 10) (.const (Value.int .i64 1)) (ρ 10) (Value.int .i64 1) w fun x21 w => K .normal (up (up ρ 21 x21) 10 x21) w
theorem posted_kept_posted_Receive_R2_eq (z : At) (K : Exit → Sl → World → Prop) (ρ : Sl) (w : World) : sx z Try.prog 23 posted_kept_posted_Receive_R2 K ρ w = posted_kept_posted_Receive_R2_F z K ρ w := by kernel_rfl
noncomputable def posted_kept_posted_Receive_F (a0 a1 : Value) (w : World) (R : Value → World → Prop) : Prop :=
  IK Try.prog .len #[41] 3 [false] [a0] w fun x9 w => W fn_ Try.prog 23 (Code.loop posted_kept_posted_Receive_L0) (blkK 0 (seqK (sx fn_ Try.prog 23 posted_kept_posted_Receive_R1 (retK Try.prog [ResultVar.tmp 4] R)) (retK Try.prog [ResultVar.tmp 4] R))) (up (up (up (up (up (rho0 [a0, a1]) 4 (Value.slice none 0 0)) 5 (Value.slice none 0 0)) 8 a0) 9 x9) 10 (Value.int .i64 0)) w
theorem posted_kept_posted_Receive_eq (a0 a1 : Value) (w : World) (R : Value → World → Prop) : sx fn_ Try.prog 23 posted_kept_posted_Receive_b (retK Try.prog Try.f46.results.toList R) (rho0 [a0, a1]) w = posted_kept_posted_Receive_F a0 a1 w R := by kernel_rfl
theorem posted_kept_posted_Receive_calls {a0 a1 : Value} {w : World} {R : Value → World → Prop} (h : posted_kept_posted_Receive_F a0 a1 w R) : Calls Try.prog 46 #[a0, a1] w fun e w' => ∃ v, e = .returned v ∧ R v w' :=
  Go.X.calls_of_sx (n := 23) (c := posted_kept_posted_Receive_b) Try.func46 (by kernel_rfl) (by kernel_rfl) (Nat.le_of_ble_eq_true rfl) (by kernel_rfl) (Eq.mpr (posted_kept_posted_Receive_eq a0 a1 w R) h)
noncomputable def posted_Receive_waits_b : Code := (Try.f47.body).getD .skip
noncomputable def posted_Receive_waits_F (a0 : Value) (w : World) (R : Value → World → Prop) : Prop :=
  VK Try.prog (Instr.box 24 a0) w fun x1 w => VK Try.prog (Instr.fieldAt 24 x1 6) w fun x3 w => VK Try.prog (Instr.loadAt 4 x3) w fun x4 w => VK Try.prog (Op.unary UnOp.not x4) w fun x5 w => R x5 w
theorem posted_Receive_waits_eq (a0 : Value) (w : World) (R : Value → World → Prop) : sx fn_ Try.prog 6 posted_Receive_waits_b (retK Try.prog Try.f47.results.toList R) (rho0 [a0]) w = posted_Receive_waits_F a0 w R := by kernel_rfl
theorem posted_Receive_waits_calls {a0 : Value} {w : World} {R : Value → World → Prop} (h : posted_Receive_waits_F a0 w R) : Calls Try.prog 47 #[a0] w fun e w' => ∃ v, e = .returned v ∧ R v w' :=
  Go.X.calls_of_sx (n := 6) (c := posted_Receive_waits_b) Try.func47 (by kernel_rfl) (by kernel_rfl) (Nat.le_of_ble_eq_true rfl) (by kernel_rfl) (Eq.mpr (posted_Receive_waits_eq a0 w R) h)
noncomputable def posted_Receive_fits_b : Code := (Try.f48.body).getD .skip
noncomputable def posted_Receive_fits_F (a0 a1 : Value) (w : World) (R : Value → World → Prop) : Prop :=
  VK Try.prog (Instr.box 24 a0) w fun x2 w => VK Try.prog (Instr.box 39 a1) w fun x3 w => VK Try.prog (Instr.fieldAt 24 x2 0) w fun x5 w => VK Try.prog (Instr.loadAt 9 x5) w fun x6 w => VK Try.prog (Instr.fieldAt 39 x3 0) w fun x7 w => VK Try.prog (Instr.loadAt 9 x7) w fun x8 w => BK Try.prog .eql 9 (.tmp 6) (.tmp 8) x6 x8 w fun x9 w => VG Try.prog x9 true (Instr.fieldAt 24 x2 1) w fun x11 w => VG Try.prog x9 true (Instr.loadAt 3 x11) w fun x12 w => VG Try.prog x9 true (Instr.fieldAt 39 x3 2) w fun x13 w => VG Try.prog x9 true (Instr.loadAt 3 x13) w fun x14 w => BG Try.prog x9 true .eql 3 (.tmp 12) (.tmp 14) x12 x14 w fun x15 w => PK Try.prog x9 x15 (Value.bool false) w fun x16 w => VG Try.prog x16 true (Instr.fieldAt 24 x2 3) w fun x18 w => VG Try.prog x16 true (Instr.loadAt 3 x18) w fun x19 w => BG Try.prog x16 true .eql 3 (.tmp 19) (.const (Value.int .i64 (-1))) x19 (Value.int .i64 (-1)) w fun x20 w => MG Try.prog x16 true x20 w fun x21 w => VG Try.prog x21 false (Instr.fieldAt 24 x2 3) w fun x22 w => VG Try.prog x21 false (Instr.loadAt 3 x22) w fun x23 w => VG Try.prog x21 false (Instr.fieldAt 39 x3 1) w fun x24 w => VG Try.prog x21 false (Instr.loadAt 3 x24) w fun x25 w => BG Try.prog x21 false .eql 3 (.tmp 23) (.tmp 25) x23 x25 w fun x26 w => PG Try.prog x16 true x21 (Value.bool true) x26 w fun x27 w => PK Try.prog x16 x27 (Value.bool false) w fun x28 w => VG Try.prog x28 true (Instr.fieldAt 24 x2 4) w fun x30 w => VG Try.prog x28 true (Instr.loadAt 3 x30) w fun x31 w => BG Try.prog x28 true .eql 3 (.tmp 31) (.const (Value.int .i64 (-1))) x31 (Value.int .i64 (-1)) w fun x32 w => MG Try.prog x28 true x32 w fun x33 w => VG Try.prog x33 false (Instr.fieldAt 24 x2 4) w fun x34 w => VG Try.prog x33 false (Instr.loadAt 3 x34) w fun x35 w => VG Try.prog x33 false (Instr.fieldAt 39 x3 4) w fun x36 w => VG Try.prog x33 false (Instr.loadAt 3 x36) w fun x37 w => BG Try.prog x33 false .eql 3 (.tmp 35) (.tmp 37) x35 x37 w fun x38 w => PG Try.prog x28 true x33 (Value.bool true) x38 w fun x39 w => PK Try.prog x28 x39 (Value.bool false) w fun x40 w => R x40 w
theorem posted_Receive_fits_eq (a0 a1 : Value) (w : World) (R : Value → World → Prop) : sx fn_ Try.prog 41 posted_Receive_fits_b (retK Try.prog Try.f48.results.toList R) (rho0 [a0, a1]) w = posted_Receive_fits_F a0 a1 w R := by kernel_rfl
theorem posted_Receive_fits_calls {a0 a1 : Value} {w : World} {R : Value → World → Prop} (h : posted_Receive_fits_F a0 a1 w R) : Calls Try.prog 48 #[a0, a1] w fun e w' => ∃ v, e = .returned v ∧ R v w' :=
  Go.X.calls_of_sx (n := 41) (c := posted_Receive_fits_b) Try.func48 (by kernel_rfl) (by kernel_rfl) (Nat.le_of_ble_eq_true rfl) (by kernel_rfl) (Eq.mpr (posted_Receive_fits_eq a0 a1 w R) h)
noncomputable def slices_Clone_posted_Receive_posted_Receive_b : Code := (Try.f51.body).getD .skip
noncomputable def slices_Clone_posted_Receive_posted_Receive_F (a0 : Value) (w : World) (R : Value → World → Prop) : Prop :=
  BK Try.prog .eql 41 (.tmp 3) (.const (Value.slice none 0 0)) a0 (Value.slice none 0 0) w fun x4 w => CondK x4 (R (Value.slice none 0 0) w) (VK Try.prog (Instr.buildSlice 41 0 [].toArray) w fun x5 w => IK Try.prog .append #[41, 41] 41 [false, false] [x5, a0] w fun x7 w => R x7 w)
theorem slices_Clone_posted_Receive_posted_Receive_eq (a0 : Value) (w : World) (R : Value → World → Prop) : sx fn_ Try.prog 8 slices_Clone_posted_Receive_posted_Receive_b (retK Try.prog Try.f51.results.toList R) (rho0 [a0]) w = slices_Clone_posted_Receive_posted_Receive_F a0 w R := by kernel_rfl
theorem slices_Clone_posted_Receive_posted_Receive_calls {a0 : Value} {w : World} {R : Value → World → Prop} (h : slices_Clone_posted_Receive_posted_Receive_F a0 w R) : Calls Try.prog 51 #[a0] w fun e w' => ∃ v, e = .returned v ∧ R v w' :=
  Go.X.calls_of_sx (n := 8) (c := slices_Clone_posted_Receive_posted_Receive_b) Try.func51 (by kernel_rfl) (by kernel_rfl) (Nat.le_of_ble_eq_true rfl) (by kernel_rfl) (Eq.mpr (slices_Clone_posted_Receive_posted_Receive_eq a0 w R) h)
noncomputable def dispatcherref14_Posted_Post_b : Code := (Try.f53.body).getD .skip
noncomputable def dispatcherref14_Posted_Post_R0 : Code := cAt [1, 0, 1] dispatcherref14_Posted_Post_b
noncomputable def dispatcherref14_Posted_Post_R1 : Code := cAt [1, 1] dispatcherref14_Posted_Post_b
noncomputable def dispatcherref14_Posted_Post_L2 : Code := cAt [1, 1, 0, 1, 0, 0] dispatcherref14_Posted_Post_b
noncomputable def dispatcherref14_Posted_Post_R3 : Code := cAt [1, 1, 1] dispatcherref14_Posted_Post_b
noncomputable def dispatcherref14_Posted_Post_R4 : Code := cAt [1, 1, 0, 1, 0, 0, 1, 0, 0, 0] dispatcherref14_Posted_Post_b
noncomputable def dispatcherref14_Posted_Post_R5 : Code := cAt [1, 1, 0, 1, 0, 0, 1, 0, 0, 1] dispatcherref14_Posted_Post_b
noncomputable def dispatcherref14_Posted_Post_R6 : Code := cAt [1, 1, 0, 1, 0, 0, 1, 1] dispatcherref14_Posted_Post_b
noncomputable def dispatcherref14_Posted_Post_R7 : Code := cAt [1, 1, 1, 0] dispatcherref14_Posted_Post_b
noncomputable def dispatcherref14_Posted_Post_R8 : Code := cAt [1, 1, 1, 1] dispatcherref14_Posted_Post_b
noncomputable def dispatcherref14_Posted_Post_R0_F (z : At) (K : Exit → Sl → World → Prop) (ρ : Sl) (w : World) : Prop :=
  CondK (ρ 43) (K .ret (up ρ 4 (Value.int .i64 2)) w) (K .normal ρ w)
theorem dispatcherref14_Posted_Post_R0_eq (z : At) (K : Exit → Sl → World → Prop) (ρ : Sl) (w : World) : sx z Try.prog 99 dispatcherref14_Posted_Post_R0 K ρ w = dispatcherref14_Posted_Post_R0_F z K ρ w := by kernel_rfl
noncomputable def dispatcherref14_Posted_Post_R1_F (z : At) (K : Exit → Sl → World → Prop) (ρ : Sl) (w : World) : Prop :=
  W z Try.prog 99 (Code.loop dispatcherref14_Posted_Post_L2) (blkK 0 (seqK (sx z Try.prog 99 dispatcherref14_Posted_Post_R3 K) K)) (up ρ 5 (Value.int .i64 0)) w
theorem dispatcherref14_Posted_Post_R1_eq (z : At) (K : Exit → Sl → World → Prop) (ρ : Sl) (w : World) : sx z Try.prog 99 dispatcherref14_Posted_Post_R1 K ρ w = dispatcherref14_Posted_Post_R1_F z K ρ w := by kernel_rfl
noncomputable def dispatcherref14_Posted_Post_L2_F (z : At) (K : Exit → Sl → World → Prop) (ρ : Sl) (w : World) : Prop :=
  NK Try.prog (ρ 0) w fun x46 w => VK Try.prog (Instr.fieldAt 71 x46 0) w fun x47 w => VK Try.prog (Instr.loadAt 41 x47) w fun x48 w => IK Try.prog .len #[41] 3 [false] [x48] w fun x49 w => BK Try.prog .lss 3 (.tmp 44) (.tmp 49) (ρ 5) x49 w fun x50 w => CondK x50 (W z Try.prog 99 dispatcherref14_Posted_Post_R4 (seqK (sx z Try.prog 99 dispatcherref14_Posted_Post_R5 (blkK 1 (seqK (sx z Try.prog 99 dispatcherref14_Posted_Post_R6 K) K))) (blkK 1 (seqK (sx z Try.prog 99 dispatcherref14_Posted_Post_R6 K) K))) (up (up (up (up (up (up (up ρ 44 (ρ 5)) 45 (ρ 0)) 46 x46) 47 x47) 48 x48) 49 x49) 50 x50) w) (K (.exit 0) (up (up (up (up (up (up (up ρ 44 (ρ 5)) 45 (ρ 0)) 46 x46) 47 x47) 48 x48) 49 x49) 50 x50) w)
theorem dispatcherref14_Posted_Post_L2_eq (z : At) (K : Exit → Sl → World → Prop) (ρ : Sl) (w : World) : sx z Try.prog 99 dispatcherref14_Posted_Post_L2 K ρ w = dispatcherref14_Posted_Post_L2_F z K ρ w := by kernel_rfl
theorem dispatcherref14_Posted_Post_L2_ok : dstOk 99 dispatcherref14_Posted_Post_L2 = true := by kernel_rfl
noncomputable def dispatcherref14_Posted_Post_R3_F (z : At) (K : Exit → Sl → World → Prop) (ρ : Sl) (w : World) : Prop :=
  W z Try.prog 99 dispatcherref14_Posted_Post_R7 (seqK (sx z Try.prog 99 dispatcherref14_Posted_Post_R8 K) K) ρ w
theorem dispatcherref14_Posted_Post_R3_eq (z : At) (K : Exit → Sl → World → Prop) (ρ : Sl) (w : World) : sx z Try.prog 99 dispatcherref14_Posted_Post_R3 K ρ w = dispatcherref14_Posted_Post_R3_F z K ρ w := by kernel_rfl
noncomputable def dispatcherref14_Posted_Post_R4_ops : Array Oper := opsOf dispatcherref14_Posted_Post_R4
def dispatcherref14_Posted_Post_R4_T (K : Exit → Sl → World → Prop) (ρ : Sl) (w : World) : Prop :=
  let C : World → Prop := fun w' => w' = w; QK Try.prog C (nilCk (ρ 0)) fun x54_1 => QK Try.prog C (do pure (Next.value (← Instr.fieldAt 71 x54_1 0))) fun x55_1 => QK Try.prog C (do pure (Next.value (← Instr.loadAt 41 x55_1))) fun x56_1 => QK Try.prog C (do pure (Next.value (← Instr.indexAt 41 x56_1 (ρ 5)))) fun x58_1 => QK Try.prog C (do pure (Next.value (← Instr.fieldAt 24 x58_1 1))) fun x59_1 => QK Try.prog C (do pure (Next.value (← Instr.loadAt 3 x59_1))) fun x60_1 => QK Try.prog C (do pure (Next.value (← Instr.fieldAt 24 (ρ 3) 1))) fun x61_1 => QK Try.prog C (do pure (Next.value (← Instr.loadAt 3 x61_1))) fun x62_1 => QK Try.prog C (do pure (Next.value (← (do eqGuard BinOp.eql 3 (Operand.tmp 60) (Operand.tmp 62) x60_1 x62_1; binOp BinOp.eql 3 x60_1 x62_1)))) fun x63_1 => QG Try.prog C x63_1 true  (pure (Next.value (ρ 0))) fun x65_1 => QG Try.prog C x63_1 true  (nilCk x65_1) fun x66_1 => QG Try.prog C x63_1 true  (do pure (Next.value (← Instr.fieldAt 71 x66_1 0))) fun x67_1 => QG Try.prog C x63_1 true  (do pure (Next.value (← Instr.loadAt 41 x67_1))) fun x68_1 => QG Try.prog C x63_1 true  (pure (Next.value (ρ 5))) fun x69_1 => QG Try.prog C x63_1 true  (do pure (Next.value (← Instr.indexAt 41 x68_1 x69_1))) fun x70_1 => QG Try.prog C x63_1 true  (do pure (Next.value (← Instr.fieldAt 24 x70_1 2))) fun x71_1 => QG Try.prog C x63_1 true  (do pure (Next.value (← Instr.loadAt 3 x71_1))) fun x72_1 => QG Try.prog C x63_1 true  (do pure (Next.value (← Instr.fieldAt 24 (ρ 3) 2))) fun x73_1 => QG Try.prog C x63_1 true  (do pure (Next.value (← Instr.loadAt 3 x73_1))) fun x74_1 => BG Try.prog x63_1 true BinOp.geq 3 (Operand.tmp 72) (Operand.tmp 74) x72_1 x74_1 w fun x75_1 w => PK Try.prog x63_1 x75_1 (Value.bool false) w fun x76_1 w => K Exit.normal (up (up (up (up (up (up (up (up (up (up (up (up (up (up (up (up (up (up (up (up (up (up (up (up ρ 53 (ρ 0)) 54 x54_1) 55 x55_1) 56 x56_1) 57 (ρ 5)) 58 x58_1) 59 x59_1) 60 x60_1) 61 x61_1) 62 x62_1) 63 x63_1) 64 x63_1) 65 x65_1) 66 x66_1) 67 x67_1) 68 x68_1) 69 x69_1) 70 x70_1) 71 x71_1) 72 x72_1) 73 x73_1) 74 x74_1) 75 x75_1) 76 x76_1) w
theorem dispatcherref14_Posted_Post_R4_tail {D : List Deferred} {K : Exit → Sl → World → Prop} {ρ : Sl} {w : World} (h : dispatcherref14_Posted_Post_R4_T K ρ { w with drawn := w.drawn + 1 }) : W ⟨none, D⟩ Try.prog 99 dispatcherref14_Posted_Post_R4 K ρ w := by
  have e : dispatcherref14_Posted_Post_R4 = .region (idOf dispatcherref14_Posted_Post_R4) dispatcherref14_Posted_Post_R4_ops true := by kernel_rfl
  have q : sxq Try.prog (fun w' => w' = { w with drawn := w.drawn + 1 }) dispatcherref14_Posted_Post_R4_ops (fun ρ' => sxL Try.prog dispatcherref14_Posted_Post_R4_ops (K .normal) (dispatcherref14_Posted_Post_R4_ops.toList.drop 22) ρ' { w with drawn := w.drawn + 1 }) (dispatcherref14_Posted_Post_R4_ops.toList.take 22) ρ = dispatcherref14_Posted_Post_R4_T K ρ { w with drawn := w.drawn + 1 } := by kernel_rfl
  rw [e]
  exact W_tail 22 (by kernel_rfl) (by kernel_rfl) (by kernel_rfl) (by kernel_rfl) (Eq.mpr q h)
noncomputable def dispatcherref14_Posted_Post_R5_F (z : At) (K : Exit → Sl → World → Prop) (ρ : Sl) (w : World) : Prop :=
  CondK (ρ 76) (K .ret (up ρ 4 (Value.int .i64 2)) w) (K .normal ρ w)
theorem dispatcherref14_Posted_Post_R5_eq (z : At) (K : Exit → Sl → World → Prop) (ρ : Sl) (w : World) : sx z Try.prog 99 dispatcherref14_Posted_Post_R5 K ρ w = dispatcherref14_Posted_Post_R5_F z K ρ w := by kernel_rfl
noncomputable def dispatcherref14_Posted_Post_R6_F (z : At) (K : Exit → Sl → World → Prop) (ρ : Sl) (w : World) : Prop :=
  BK Try.prog .add 3 (.tmp 51) (.const (Value.int .i64 1)) (ρ 5) (Value.int .i64 1) w fun x52 w => K .normal (up (up (up ρ 51 (ρ 5)) 52 x52) 5 x52) w
theorem dispatcherref14_Posted_Post_R6_eq (z : At) (K : Exit → Sl → World → Prop) (ρ : Sl) (w : World) : sx z Try.prog 99 dispatcherref14_Posted_Post_R6 K ρ w = dispatcherref14_Posted_Post_R6_F z K ρ w := by kernel_rfl
noncomputable def dispatcherref14_Posted_Post_R7_ops : Array Oper := opsOf dispatcherref14_Posted_Post_R7
def dispatcherref14_Posted_Post_R7_H (S : World → Prop) (K : Exit → Sl → World → Prop) (ρ : Sl) (w : World) : Prop :=
  HK Try.prog S (nilCk (ρ 0)) fun x79 => HK Try.prog S (do pure (Next.value (← Instr.fieldAt 71 x79 0))) fun x80 => HK Try.prog S (do pure (Next.value (← Instr.fieldAt 24 (ρ 3) 0))) fun x82 => HK Try.prog S (do pure (Next.value (← Instr.loadAt 9 x82))) fun x83 => HK Try.prog S (do pure (Next.value (← Instr.fieldAt 24 (ρ 3) 1))) fun x84 => HK Try.prog S (do pure (Next.value (← Instr.loadAt 3 x84))) fun x85 => HK Try.prog S (do pure (Next.value (← Instr.fieldAt 24 (ρ 3) 2))) fun x86 => HK Try.prog S (do pure (Next.value (← Instr.loadAt 3 x86))) fun x87 => HK Try.prog S (do pure (Next.value (← Instr.fieldAt 24 (ρ 3) 3))) fun x88 => HK Try.prog S (do pure (Next.value (← Instr.loadAt 3 x88))) fun x89 => HK Try.prog S (do pure (Next.value (← Instr.fieldAt 24 (ρ 3) 4))) fun x90 => HK Try.prog S (do pure (Next.value (← Instr.loadAt 3 x90))) fun x91 => HK Try.prog S (do pure (Next.value (← Instr.fieldAt 24 (ρ 3) 5))) fun x92 => HK Try.prog S (do pure (Next.value (← Instr.loadAt 3 x92))) fun x93 => HK Try.prog S (do pure (Next.value (← Instr.build 24 [(0, x83), (1, x85), (2, x87), (3, x89), (4, x91), (5, x93)].toArray))) fun x94 => (VK Try.prog (Instr.loadAt 41 x80) w fun x81 w => S w ∧ (VK Try.prog (Instr.buildSlice 41 1 [(0, x94)].toArray) w fun x95 w => S w ∧ (IK Try.prog Builtin.append #[41, 41] 41 [false, false] [x81, x95] w fun x96 w => S w ∧ (HK Try.prog S (nilCk (ρ 0)) fun x97 => HK Try.prog S (do pure (Next.value (← Instr.fieldAt 71 x97 0))) fun x98 => UK Try.prog (Instr.storeAt 41 x98 x96) w fun _ w => S w ∧ (K Exit.normal (up (up (up (up (up (up (up (up (up (up (up (up (up (up (up (up (up (up (up (up (up (up ρ 77 (ρ 0)) 78 (ρ 0)) 79 x79) 80 x80) 82 x82) 83 x83) 84 x84) 85 x85) 86 x86) 87 x87) 88 x88) 89 x89) 90 x90) 91 x91) 92 x92) 93 x93) 94 x94) 81 x81) 95 x95) 96 x96) 97 x97) 98 x98) w))))) ∧ (VK Try.prog (Instr.buildSlice 41 1 [(0, x94)].toArray) w fun x95_1 w => S w ∧ (VK Try.prog (Instr.loadAt 41 x80) w fun x81_1 w => S w ∧ (IK Try.prog Builtin.append #[41, 41] 41 [false, false] [x81_1, x95_1] w fun x96_1 w => S w ∧ (HK Try.prog S (nilCk (ρ 0)) fun x97_1 => HK Try.prog S (do pure (Next.value (← Instr.fieldAt 71 x97_1 0))) fun x98_1 => UK Try.prog (Instr.storeAt 41 x98_1 x96_1) w fun _ w => S w ∧ (K Exit.normal (up (up (up (up (up (up (up (up (up (up (up (up (up (up (up (up (up (up (up (up (up (up ρ 77 (ρ 0)) 78 (ρ 0)) 79 x79) 80 x80) 82 x82) 83 x83) 84 x84) 85 x85) 86 x86) 87 x87) 88 x88) 89 x89) 90 x90) 91 x91) 92 x92) 93 x93) 94 x94) 95 x95_1) 81 x81_1) 96 x96_1) 97 x97_1) 98 x98_1) w)))))
theorem dispatcherref14_Posted_Post_R7_held {D : List Deferred} (S : World → Prop) {K : Exit → Sl → World → Prop} {ρ : Sl} {w : World} (hS : S { w with drawn := w.drawn + 1 }) (h : dispatcherref14_Posted_Post_R7_H S K ρ { w with drawn := w.drawn + 1 }) : W ⟨none, D⟩ Try.prog 99 dispatcherref14_Posted_Post_R7 K ρ w := by
  have e : dispatcherref14_Posted_Post_R7 = .region (idOf dispatcherref14_Posted_Post_R7) dispatcherref14_Posted_Post_R7_ops true := by kernel_rfl
  have q : sxd Try.prog S dispatcherref14_Posted_Post_R7_ops (K .normal) (Pd.take 0 (Pd.take 1 (Pd.take 2 (Pd.take 3 (Pd.take 5 (Pd.take 6 (Pd.take 7 (Pd.take 8 (Pd.take 9 (Pd.take 10 (Pd.take 11 (Pd.take 12 (Pd.take 13 (Pd.take 14 (Pd.take 15 (Pd.take 16 (Pd.take 17 (Pd.two false false 4 18 (Pd.only false 18 (Pd.only false 19 (Pd.take 20 (Pd.take 21 (Pd.only false 22 Pd.done))))) (Pd.only false 4 (Pd.only false 19 (Pd.take 20 (Pd.take 21 (Pd.only false 22 Pd.done))))))))))))))))))))))) ρ { w with drawn := w.drawn + 1 } = dispatcherref14_Posted_Post_R7_H S K ρ { w with drawn := w.drawn + 1 } := by kernel_rfl
  rw [e]
  exact W_pland S (Pd.take 0 (Pd.take 1 (Pd.take 2 (Pd.take 3 (Pd.take 5 (Pd.take 6 (Pd.take 7 (Pd.take 8 (Pd.take 9 (Pd.take 10 (Pd.take 11 (Pd.take 12 (Pd.take 13 (Pd.take 14 (Pd.take 15 (Pd.take 16 (Pd.take 17 (Pd.two false false 4 18 (Pd.only false 18 (Pd.only false 19 (Pd.take 20 (Pd.take 21 (Pd.only false 22 Pd.done))))) (Pd.only false 4 (Pd.only false 19 (Pd.take 20 (Pd.take 21 (Pd.only false 22 Pd.done))))))))))))))))))))))) (by kernel_rfl) (by kernel_rfl) (by kernel_rfl) (by kernel_rfl) hS (Eq.mpr q h)
noncomputable def dispatcherref14_Posted_Post_R8_F (z : At) (K : Exit → Sl → World → Prop) (ρ : Sl) (w : World) : Prop :=
  K .ret (up ρ 4 (Value.int .i64 0)) w
theorem dispatcherref14_Posted_Post_R8_eq (z : At) (K : Exit → Sl → World → Prop) (ρ : Sl) (w : World) : sx z Try.prog 99 dispatcherref14_Posted_Post_R8 K ρ w = dispatcherref14_Posted_Post_R8_F z K ρ w := by kernel_rfl
noncomputable def dispatcherref14_Posted_Post_F (a0 a1 : Value) (w : World) (R : Value → World → Prop) : Prop :=
  VK Try.prog (Instr.box 24 a1) w fun x3 w => VK Try.prog (Instr.fieldAt 24 x3 1) w fun x6 w => VK Try.prog (Instr.loadAt 3 x6) w fun x7 w => BK Try.prog .lss 3 (.tmp 7) (.const (Value.int .i64 0)) x7 (Value.int .i64 0) w fun x8 w => VG Try.prog x8 false (Instr.fieldAt 24 x3 1) w fun x10 w => VG Try.prog x8 false (Instr.loadAt 3 x10) w fun x11 w => BG Try.prog x8 false .gtr 3 (.tmp 11) (.const (Value.int .i64 63)) x11 (Value.int .i64 63) w fun x12 w => PK Try.prog x8 (Value.bool true) x12 w fun x13 w => VG Try.prog x13 false (Instr.fieldAt 24 x3 3) w fun x15 w => VG Try.prog x13 false (Instr.loadAt 3 x15) w fun x16 w => BG Try.prog x13 false .lss 3 (.tmp 16) (.const (Value.int .i64 (-1))) x16 (Value.int .i64 (-1)) w fun x17 w => PK Try.prog x13 (Value.bool true) x17 w fun x18 w => VG Try.prog x18 false (Instr.fieldAt 24 x3 3) w fun x20 w => VG Try.prog x18 false (Instr.loadAt 3 x20) w fun x21 w => BG Try.prog x18 false .gtr 3 (.tmp 21) (.const (Value.int .i64 63)) x21 (Value.int .i64 63) w fun x22 w => PK Try.prog x18 (Value.bool true) x22 w fun x23 w => VG Try.prog x23 false (Instr.fieldAt 24 x3 4) w fun x25 w => VG Try.prog x23 false (Instr.loadAt 3 x25) w fun x26 w => BG Try.prog x23 false .lss 3 (.tmp 26) (.const (Value.int .i64 (-1))) x26 (Value.int .i64 (-1)) w fun x27 w => PK Try.prog x23 (Value.bool true) x27 w fun x28 w => VG Try.prog x28 false (Instr.fieldAt 24 x3 4) w fun x30 w => VG Try.prog x28 false (Instr.loadAt 3 x30) w fun x31 w => BG Try.prog x28 false .gtr 3 (.tmp 31) (.const (Value.int .i64 32767)) x31 (Value.int .i64 32767) w fun x32 w => PK Try.prog x28 (Value.bool true) x32 w fun x33 w => VG Try.prog x33 false (Instr.fieldAt 24 x3 5) w fun x35 w => VG Try.prog x33 false (Instr.loadAt 3 x35) w fun x36 w => BG Try.prog x33 false .lss 3 (.tmp 36) (.const (Value.int .i64 (-1))) x36 (Value.int .i64 (-1)) w fun x37 w => PK Try.prog x33 (Value.bool true) x37 w fun x38 w => VG Try.prog x38 false (Instr.fieldAt 24 x3 2) w fun x40 w => VG Try.prog x38 false (Instr.loadAt 3 x40) w fun x41 w => BG Try.prog x38 false .lss 3 (.tmp 41) (.const (Value.int .i64 0)) x41 (Value.int .i64 0) w fun x42 w => PK Try.prog x38 (Value.bool true) x42 w fun x43 w => sx fn_ Try.prog 99 dispatcherref14_Posted_Post_R0 (seqK (sx fn_ Try.prog 99 dispatcherref14_Posted_Post_R1 (retK Try.prog [ResultVar.tmp 4] R)) (retK Try.prog [ResultVar.tmp 4] R)) (up (up (up (up (up (up (up (up (up (up (up (up (up (up (up (up (up (up (up (up (up (up (up (up (up (up (up (up (up (up (up (up (up (up (up (up (up (up (up (up (rho0 [a0, a1]) 3 x3) 4 (Value.int .i64 0)) 6 x6) 7 x7) 8 x8) 9 x8) 10 x10) 11 x11) 12 x12) 13 x13) 14 x13) 15 x15) 16 x16) 17 x17) 18 x18) 19 x18) 20 x20) 21 x21) 22 x22) 23 x23) 24 x23) 25 x25) 26 x26) 27 x27) 28 x28) 29 x28) 30 x30) 31 x31) 32 x32) 33 x33) 34 x33) 35 x35) 36 x36) 37 x37) 38 x38) 39 x38) 40 x40) 41 x41) 42 x42) 43 x43) w
theorem dispatcherref14_Posted_Post_eq (a0 a1 : Value) (w : World) (R : Value → World → Prop) : sx fn_ Try.prog 99 dispatcherref14_Posted_Post_b (retK Try.prog Try.f53.results.toList R) (rho0 [a0, a1]) w = dispatcherref14_Posted_Post_F a0 a1 w R := by kernel_rfl
theorem dispatcherref14_Posted_Post_calls {a0 a1 : Value} {w : World} {R : Value → World → Prop} (h : dispatcherref14_Posted_Post_F a0 a1 w R) : Calls Try.prog 53 #[a0, a1] w fun e w' => ∃ v, e = .returned v ∧ R v w' :=
  Go.X.calls_of_sx (n := 99) (c := dispatcherref14_Posted_Post_b) Try.func53 (by kernel_rfl) (by kernel_rfl) (Nat.le_of_ble_eq_true rfl) (by kernel_rfl) (Eq.mpr (dispatcherref14_Posted_Post_eq a0 a1 w R) h)
noncomputable def dispatcherref14_Posted_Match_b : Code := (Try.f54.body).getD .skip
noncomputable def dispatcherref14_Posted_Match_L0 : Code := cAt [1, 1, 0, 1, 0, 0] dispatcherref14_Posted_Match_b
noncomputable def dispatcherref14_Posted_Match_R1 : Code := cAt [1, 1, 1] dispatcherref14_Posted_Match_b
noncomputable def dispatcherref14_Posted_Match_R2 : Code := cAt [1, 1, 0, 1, 0, 0, 1, 0, 0, 1, 1] dispatcherref14_Posted_Match_b
noncomputable def dispatcherref14_Posted_Match_R3 : Code := cAt [1, 1, 0, 1, 0, 0, 1, 1] dispatcherref14_Posted_Match_b
noncomputable def dispatcherref14_Posted_Match_L4 : Code := cAt [1, 1, 0, 1, 0, 0, 1, 0, 0, 1, 1, 0, 1, 0, 0] dispatcherref14_Posted_Match_b
noncomputable def dispatcherref14_Posted_Match_R5 : Code := cAt [1, 1, 0, 1, 0, 0, 1, 0, 0, 1, 1, 1] dispatcherref14_Posted_Match_b
noncomputable def dispatcherref14_Posted_Match_R6 : Code := cAt [1, 1, 0, 1, 0, 0, 1, 0, 0, 1, 1, 0, 1, 0, 0, 1, 1] dispatcherref14_Posted_Match_b
noncomputable def dispatcherref14_Posted_Match_R7 : Code := cAt [1, 1, 0, 1, 0, 0, 1, 0, 0, 1, 1, 0, 1, 0, 0, 1, 0, 0, 1] dispatcherref14_Posted_Match_b
noncomputable def dispatcherref14_Posted_Match_R8 : Code := cAt [1, 1, 0, 1, 0, 0, 1, 0, 0, 1, 1, 0, 1, 0, 0, 1, 0, 0, 1, 0, 1] dispatcherref14_Posted_Match_b
noncomputable def dispatcherref14_Posted_Match_L0_F (z : At) (K : Exit → Sl → World → Prop) (ρ : Sl) (w : World) : Prop :=
  IK Try.prog .len #[31] 3 [false] [(ρ 13)] w fun x23 w => BK Try.prog .lss 3 (.tmp 21) (.tmp 23) (ρ 14) x23 w fun x24 w => CondK x24 (VK Try.prog (Instr.indexAt 31 (ρ 13) (ρ 14)) w fun x29 w => VK Try.prog (Instr.fieldAt 39 x29 1) w fun x30 w => VK Try.prog (Instr.loadAt 3 x30) w fun x31 w => BK Try.prog .neq 3 (.tmp 31) (.tmp 32) x31 (ρ 4) w fun x33 w => MG Try.prog x33 false (ρ 13) w fun x35 w => MG Try.prog x33 false (ρ 14) w fun x36 w => VG Try.prog x33 false (Instr.indexAt 31 x35 x36) w fun x37 w => VG Try.prog x33 false (Instr.fieldAt 39 x37 3) w fun x38 w => VG Try.prog x33 false (Instr.loadAt 3 x38) w fun x39 w => MG Try.prog x33 false (ρ 5) w fun x40 w => BG Try.prog x33 false .neq 3 (.tmp 39) (.tmp 40) x39 x40 w fun x41 w => PK Try.prog x33 (Value.bool true) x41 w fun x42 w => CondK x42 (BK Try.prog .add 3 (.tmp 25) (.const (Value.int .i64 1)) (ρ 14) (Value.int .i64 1) w fun x26 w => K .normal (up (up (up (up (up (up (up (up (up (up (up (up (up (up (up (up (up (up (up (up (up (up (up ρ 21 (ρ 14)) 22 (ρ 13)) 23 x23) 24 x24) 27 (ρ 13)) 28 (ρ 14)) 29 x29) 30 x30) 31 x31) 32 (ρ 4)) 33 x33) 34 x33) 35 x35) 36 x36) 37 x37) 38 x38) 39 x39) 40 x40) 41 x41) 42 x42) 25 (ρ 14)) 26 x26) 14 x26) w) (CK Try.prog (Value.func (Fn.func 71) #[] #[]) [(ρ 1), (ρ 4), (ρ 5)] w fun x46 w => sx z Try.prog 101 dispatcherref14_Posted_Match_R2 (blkK 1 (seqK (sx z Try.prog 101 dispatcherref14_Posted_Match_R3 K) K)) (up (up (up (up (up (up (up (up (up (up (up (up (up (up (up (up (up (up (up (up (up (up (up (up ρ 21 (ρ 14)) 22 (ρ 13)) 23 x23) 24 x24) 27 (ρ 13)) 28 (ρ 14)) 29 x29) 30 x30) 31 x31) 32 (ρ 4)) 33 x33) 34 x33) 35 x35) 36 x36) 37 x37) 38 x38) 39 x39) 40 x40) 41 x41) 42 x42) 43 (ρ 1)) 44 (ρ 4)) 45 (ρ 5)) 46 x46) w)) (K (.exit 0) (up (up (up (up ρ 21 (ρ 14)) 22 (ρ 13)) 23 x23) 24 x24) w)
theorem dispatcherref14_Posted_Match_L0_eq (z : At) (K : Exit → Sl → World → Prop) (ρ : Sl) (w : World) : sx z Try.prog 101 dispatcherref14_Posted_Match_L0 K ρ w = dispatcherref14_Posted_Match_L0_F z K ρ w := by kernel_rfl
theorem dispatcherref14_Posted_Match_L0_ok : dstOk 101 dispatcherref14_Posted_Match_L0 = true := by kernel_rfl
noncomputable def dispatcherref14_Posted_Match_R1_F (z : At) (K : Exit → Sl → World → Prop) (ρ : Sl) (w : World) : Prop :=
  K .ret (up ρ 12 (Value.int .i64 2)) w
theorem dispatcherref14_Posted_Match_R1_eq (z : At) (K : Exit → Sl → World → Prop) (ρ : Sl) (w : World) : sx z Try.prog 101 dispatcherref14_Posted_Match_R1 K ρ w = dispatcherref14_Posted_Match_R1_F z K ρ w := by kernel_rfl
noncomputable def dispatcherref14_Posted_Match_R2_F (z : At) (K : Exit → Sl → World → Prop) (ρ : Sl) (w : World) : Prop :=
  W z Try.prog 101 (Code.loop dispatcherref14_Posted_Match_L4) (blkK 2 (seqK (sx z Try.prog 101 dispatcherref14_Posted_Match_R5 K) K)) (up ρ 15 (Value.int .i64 0)) w
theorem dispatcherref14_Posted_Match_R2_eq (z : At) (K : Exit → Sl → World → Prop) (ρ : Sl) (w : World) : sx z Try.prog 101 dispatcherref14_Posted_Match_R2 K ρ w = dispatcherref14_Posted_Match_R2_F z K ρ w := by kernel_rfl
noncomputable def dispatcherref14_Posted_Match_L4_F (z : At) (K : Exit → Sl → World → Prop) (ρ : Sl) (w : World) : Prop :=
  NK Try.prog (ρ 0) w fun x49 w => VK Try.prog (Instr.fieldAt 71 x49 0) w fun x50 w => VK Try.prog (Instr.loadAt 41 x50) w fun x51 w => IK Try.prog .len #[41] 3 [false] [x51] w fun x52 w => BK Try.prog .lss 3 (.tmp 47) (.tmp 52) (ρ 15) x52 w fun x53 w => CondK x53 (NK Try.prog (ρ 0) w fun x57 w => VK Try.prog (Instr.fieldAt 71 x57 0) w fun x58 w => VK Try.prog (Instr.loadAt 41 x58) w fun x59 w => VK Try.prog (Instr.indexAt 41 x59 (ρ 15)) w fun x61 w => VK Try.prog (Instr.fieldAt 24 x61 1) w fun x62 w => VK Try.prog (Instr.loadAt 3 x62) w fun x63 w => BK Try.prog .eql 3 (.tmp 63) (.tmp 64) x63 (ρ 2) w fun x65 w => MG Try.prog x65 true (ρ 0) w fun x67 w => NG Try.prog x65 true x67 w fun x68 w => VG Try.prog x65 true (Instr.fieldAt 71 x68 0) w fun x69 w => VG Try.prog x65 true (Instr.loadAt 41 x69) w fun x70 w => MG Try.prog x65 true (ρ 15) w fun x71 w => VG Try.prog x65 true (Instr.indexAt 41 x70 x71) w fun x72 w => VG Try.prog x65 true (Instr.fieldAt 24 x72 2) w fun x73 w => VG Try.prog x65 true (Instr.loadAt 3 x73) w fun x74 w => MG Try.prog x65 true (ρ 3) w fun x75 w => BG Try.prog x65 true .eql 3 (.tmp 74) (.tmp 75) x74 x75 w fun x76 w => PK Try.prog x65 x76 (Value.bool false) w fun x77 w => sx z Try.prog 101 dispatcherref14_Posted_Match_R7 (blkK 3 (seqK (sx z Try.prog 101 dispatcherref14_Posted_Match_R6 K) K)) (up (up (up (up (up (up (up (up (up (up (up (up (up (up (up (up (up (up (up (up (up (up (up (up (up (up (up (up (up ρ 47 (ρ 15)) 48 (ρ 0)) 49 x49) 50 x50) 51 x51) 52 x52) 53 x53) 56 (ρ 0)) 57 x57) 58 x58) 59 x59) 60 (ρ 15)) 61 x61) 62 x62) 63 x63) 64 (ρ 2)) 65 x65) 66 x65) 67 x67) 68 x68) 69 x69) 70 x70) 71 x71) 72 x72) 73 x73) 74 x74) 75 x75) 76 x76) 77 x77) w) (K (.exit 2) (up (up (up (up (up (up (up ρ 47 (ρ 15)) 48 (ρ 0)) 49 x49) 50 x50) 51 x51) 52 x52) 53 x53) w)
theorem dispatcherref14_Posted_Match_L4_eq (z : At) (K : Exit → Sl → World → Prop) (ρ : Sl) (w : World) : sx z Try.prog 101 dispatcherref14_Posted_Match_L4 K ρ w = dispatcherref14_Posted_Match_L4_F z K ρ w := by kernel_rfl
theorem dispatcherref14_Posted_Match_L4_ok : dstOk 101 dispatcherref14_Posted_Match_L4 = true := by kernel_rfl
noncomputable def dispatcherref14_Posted_Match_R5_F (z : At) (K : Exit → Sl → World → Prop) (ρ : Sl) (w : World) : Prop :=
  K .ret (up ρ 12 (Value.int .i64 0)) w
theorem dispatcherref14_Posted_Match_R5_eq (z : At) (K : Exit → Sl → World → Prop) (ρ : Sl) (w : World) : sx z Try.prog 101 dispatcherref14_Posted_Match_R5 K ρ w = dispatcherref14_Posted_Match_R5_F z K ρ w := by kernel_rfl
noncomputable def dispatcherref14_Posted_Match_R6_F (z : At) (K : Exit → Sl → World → Prop) (ρ : Sl) (w : World) : Prop :=
  BK Try.prog .add 3 (.tmp 54) (.const (Value.int .i64 1)) (ρ 15) (Value.int .i64 1) w fun x55 w => K .normal (up (up (up ρ 54 (ρ 15)) 55 x55) 15 x55) w
theorem dispatcherref14_Posted_Match_R6_eq (z : At) (K : Exit → Sl → World → Prop) (ρ : Sl) (w : World) : sx z Try.prog 101 dispatcherref14_Posted_Match_R6 K ρ w = dispatcherref14_Posted_Match_R6_F z K ρ w := by kernel_rfl
noncomputable def dispatcherref14_Posted_Match_R7_F (z : At) (K : Exit → Sl → World → Prop) (ρ : Sl) (w : World) : Prop :=
  CondK (ρ 77) (NK Try.prog (ρ 0) w fun x79 w => VK Try.prog (Instr.fieldAt 71 x79 0) w fun x80 w => VK Try.prog (Instr.loadAt 41 x80) w fun x81 w => VK Try.prog (Instr.indexAt 41 x81 (ρ 15)) w fun x83 w => VK Try.prog (Instr.fieldAt 24 x83 6) w fun x84 w => UK Try.prog (Instr.storeAt 4 x84 (Value.bool true)) w fun _ w => W z Try.prog 101 dispatcherref14_Posted_Match_R8 K (up (up (up (up (up (up (up ρ 78 (ρ 0)) 79 x79) 80 x80) 81 x81) 82 (ρ 15)) 83 x83) 84 x84) w) (K .normal ρ w)
theorem dispatcherref14_Posted_Match_R7_eq (z : At) (K : Exit → Sl → World → Prop) (ρ : Sl) (w : World) : sx z Try.prog 101 dispatcherref14_Posted_Match_R7 K ρ w = dispatcherref14_Posted_Match_R7_F z K ρ w := by kernel_rfl
noncomputable def dispatcherref14_Posted_Match_R8_ops : Array Oper := opsOf dispatcherref14_Posted_Match_R8
def dispatcherref14_Posted_Match_R8_H0 (S : World → Prop) (K : Sl → World → Prop) (ρ : Sl) (w : World) : Prop :=
  HK Try.prog S (nilCk (ρ 0)) fun x86 => HK Try.prog S (do pure (Next.value (← Instr.fieldAt 71 x86 0))) fun x87 => HK Try.prog S (do pure (Next.value (← Instr.loadAt 41 x87))) fun x88 => HK Try.prog S (nilCk (ρ 0)) fun x91 => HK Try.prog S (do pure (Next.value (← Instr.fieldAt 71 x91 0))) fun x92 => HK Try.prog S (do pure (Next.value (← Instr.loadAt 41 x92))) fun x93 => K (up (up (up (up (up (up (up (up (up (up (up (up ρ 85 (ρ 0)) 86 x86) 87 x87) 88 x88) 89 (ρ 15)) 90 (ρ 0)) 91 x91) 92 x92) 93 x93) 94 (ρ 15)) 95 (ρ 4)) 96 (ρ 5)) w
theorem dispatcherref14_Posted_Match_R8_q0 (S : World → Prop) (K : Sl → World → Prop) : sxh Try.prog S dispatcherref14_Posted_Match_R8_ops K [(0, true), (1, true), (2, true), (3, true), (4, true), (5, true), (6, true), (7, true), (8, true), (9, true), (10, true), (11, true)] = dispatcherref14_Posted_Match_R8_H0 S K := by kernel_rfl
def dispatcherref14_Posted_Match_R8_H1 (S : World → Prop) (K : Sl → World → Prop) (ρ : Sl) (w : World) : Prop :=
  HK Try.prog S (do pure (Next.value (← Instr.indexAt 41 (ρ 88) (ρ 89)))) fun x97 => HK Try.prog S (do pure (Next.value (← Instr.fieldAt 24 x97 7))) fun x98 => UK Try.prog (Instr.storeAt 3 x98 (ρ 95)) w fun _ w => S w ∧ (HK Try.prog S (do pure (Next.value (← Instr.indexAt 41 (ρ 93) (ρ 94)))) fun x99 => HK Try.prog S (do pure (Next.value (← Instr.fieldAt 24 x99 8))) fun x100 => UK Try.prog (Instr.storeAt 3 x100 (ρ 96)) w fun _ w => S w ∧ (K (up (up (up (up ρ 97 x97) 98 x98) 99 x99) 100 x100) w))
theorem dispatcherref14_Posted_Match_R8_q1 (S : World → Prop) (K : Sl → World → Prop) : sxh Try.prog S dispatcherref14_Posted_Match_R8_ops K [(12, true), (13, true), (14, false), (15, true), (16, true), (17, false)] = dispatcherref14_Posted_Match_R8_H1 S K := by kernel_rfl
def dispatcherref14_Posted_Match_R8_H (S : World → Prop) (K : Exit → Sl → World → Prop) (ρ : Sl) (w : World) : Prop :=
  dispatcherref14_Posted_Match_R8_H0 S (dispatcherref14_Posted_Match_R8_H1 S (K .normal)) ρ w
theorem dispatcherref14_Posted_Match_R8_steps : planOk Try.prog 101 dispatcherref14_Posted_Match_R8_ops [(0, true), (1, true), (2, true), (3, true), (4, true), (5, true), (6, true), (7, true), (8, true), (9, true), (10, true), (11, true), (12, true), (13, true), (14, false), (15, true), (16, true), (17, false)] (Array.replicate dispatcherref14_Posted_Match_R8_ops.size false) = true :=
  by kernel_rfl
theorem dispatcherref14_Posted_Match_R8_held {D : List Deferred} (S : World → Prop) {K : Exit → Sl → World → Prop} {ρ : Sl} {w : World} (hS : S { w with drawn := w.drawn + 1 }) (h : dispatcherref14_Posted_Match_R8_H S K ρ { w with drawn := w.drawn + 1 }) : W ⟨none, D⟩ Try.prog 101 dispatcherref14_Posted_Match_R8 K ρ w := by
  have e : dispatcherref14_Posted_Match_R8 = .region (idOf dispatcherref14_Posted_Match_R8) dispatcherref14_Posted_Match_R8_ops true := by kernel_rfl
  have q : sxh Try.prog S dispatcherref14_Posted_Match_R8_ops (K .normal) [(0, true), (1, true), (2, true), (3, true), (4, true), (5, true), (6, true), (7, true), (8, true), (9, true), (10, true), (11, true), (12, true), (13, true), (14, false), (15, true), (16, true), (17, false)] ρ { w with drawn := w.drawn + 1 } = dispatcherref14_Posted_Match_R8_H S K ρ { w with drawn := w.drawn + 1 } := by
    show sxh Try.prog S dispatcherref14_Posted_Match_R8_ops (K .normal) ([(0, true), (1, true), (2, true), (3, true), (4, true), (5, true), (6, true), (7, true), (8, true), (9, true), (10, true), (11, true)] ++ [(12, true), (13, true), (14, false), (15, true), (16, true), (17, false)]) ρ { w with drawn := w.drawn + 1 } = _
    rw [sxh_append, dispatcherref14_Posted_Match_R8_q1, dispatcherref14_Posted_Match_R8_q0]; rfl
  rw [e]
  exact W_held S [(0, true), (1, true), (2, true), (3, true), (4, true), (5, true), (6, true), (7, true), (8, true), (9, true), (10, true), (11, true), (12, true), (13, true), (14, false), (15, true), (16, true), (17, false)] (by kernel_rfl) (by kernel_rfl) dispatcherref14_Posted_Match_R8_steps (by kernel_rfl) hS (Eq.mpr q h)
noncomputable def dispatcherref14_Posted_Match_F (a0 a1 a2 a3 a4 a5 : Value) (w : World) (R : Value → World → Prop) : Prop :=
  CK Try.prog (Value.func (Fn.func 31) #[] #[]) [a0, a1, a2, a3] w fun x20 w => W fn_ Try.prog 101 (Code.loop dispatcherref14_Posted_Match_L0) (blkK 0 (seqK (sx fn_ Try.prog 101 dispatcherref14_Posted_Match_R1 (retK Try.prog [ResultVar.tmp 12] R)) (retK Try.prog [ResultVar.tmp 12] R))) (up (up (up (up (up (up (up (up (rho0 [a0, a1, a2, a3, a4, a5]) 12 (Value.int .i64 0)) 16 a0) 17 a1) 18 a2) 19 a3) 20 x20) 13 x20) 14 (Value.int .i64 0)) w
theorem dispatcherref14_Posted_Match_eq (a0 a1 a2 a3 a4 a5 : Value) (w : World) (R : Value → World → Prop) : sx fn_ Try.prog 101 dispatcherref14_Posted_Match_b (retK Try.prog Try.f54.results.toList R) (rho0 [a0, a1, a2, a3, a4, a5]) w = dispatcherref14_Posted_Match_F a0 a1 a2 a3 a4 a5 w R := by kernel_rfl
theorem dispatcherref14_Posted_Match_calls {a0 a1 a2 a3 a4 a5 : Value} {w : World} {R : Value → World → Prop} (h : dispatcherref14_Posted_Match_F a0 a1 a2 a3 a4 a5 w R) : Calls Try.prog 54 #[a0, a1, a2, a3, a4, a5] w fun e w' => ∃ v, e = .returned v ∧ R v w' :=
  Go.X.calls_of_sx (n := 101) (c := dispatcherref14_Posted_Match_b) Try.func54 (by kernel_rfl) (by kernel_rfl) (Nat.le_of_ble_eq_true rfl) (by kernel_rfl) (Eq.mpr (dispatcherref14_Posted_Match_eq a0 a1 a2 a3 a4 a5 w R) h)
noncomputable def dispatcherref14_Posted_Copy_b : Code := (Try.f57.body).getD .skip
noncomputable def dispatcherref14_Posted_Copy_F (a0 : Value) (w : World) (R : Value → World → Prop) : Prop :=
  VK Try.prog (Instr.buildSlice 41 0 [].toArray) w fun x3 w => NK Try.prog a0 w fun x5 w => VK Try.prog (Instr.fieldAt 71 x5 0) w fun x6 w => VK Try.prog (Instr.loadAt 41 x6) w fun x7 w => IK Try.prog .append #[41, 41] 41 [false, false] [x3, x7] w fun x8 w => VK Try.prog (Instr.build 71 [(0, x8)].toArray) w fun x9 w => VK Try.prog (Instr.box 71 x9) w fun x10 w => R x10 w
theorem dispatcherref14_Posted_Copy_eq (a0 : Value) (w : World) (R : Value → World → Prop) : sx fn_ Try.prog 11 dispatcherref14_Posted_Copy_b (retK Try.prog Try.f57.results.toList R) (rho0 [a0]) w = dispatcherref14_Posted_Copy_F a0 w R := by kernel_rfl
theorem dispatcherref14_Posted_Copy_calls {a0 : Value} {w : World} {R : Value → World → Prop} (h : dispatcherref14_Posted_Copy_F a0 w R) : Calls Try.prog 57 #[a0] w fun e w' => ∃ v, e = .returned v ∧ R v w' :=
  Go.X.calls_of_sx (n := 11) (c := dispatcherref14_Posted_Copy_b) Try.func57 (by kernel_rfl) (by kernel_rfl) (Nat.le_of_ble_eq_true rfl) (by kernel_rfl) (Eq.mpr (dispatcherref14_Posted_Copy_eq a0 w R) h)
noncomputable def dispatcherref14_Posted_all_b : Code := (Try.f58.body).getD .skip
noncomputable def dispatcherref14_Posted_all_L0 : Code := cAt [1, 1, 1, 0, 1, 0, 0] dispatcherref14_Posted_all_b
noncomputable def dispatcherref14_Posted_all_R1 : Code := cAt [1, 1, 1, 1] dispatcherref14_Posted_all_b
noncomputable def dispatcherref14_Posted_all_L2 : Code := cAt [1, 1, 1, 0, 1, 0, 0, 1, 0, 0, 1, 0, 0] dispatcherref14_Posted_all_b
noncomputable def dispatcherref14_Posted_all_R3 : Code := cAt [1, 1, 1, 0, 1, 0, 0, 1, 1] dispatcherref14_Posted_all_b
noncomputable def dispatcherref14_Posted_all_R4 : Code := cAt [1, 1, 1, 0, 1, 0, 0, 1, 0, 0, 1, 0, 0, 1, 1] dispatcherref14_Posted_all_b
noncomputable def dispatcherref14_Posted_all_R5 : Code := cAt [1, 1, 1, 0, 1, 0, 0, 1, 0, 0, 1, 0, 0, 1, 0, 0, 0] dispatcherref14_Posted_all_b
noncomputable def dispatcherref14_Posted_all_R6 : Code := cAt [1, 1, 1, 0, 1, 0, 0, 1, 0, 0, 1, 0, 0, 1, 0, 0, 1] dispatcherref14_Posted_all_b
noncomputable def dispatcherref14_Posted_all_L0_F (z : At) (K : Exit → Sl → World → Prop) (ρ : Sl) (w : World) : Prop :=
  BK Try.prog .lss 3 (.tmp 15) (.const (Value.int .i64 64)) (ρ 11) (Value.int .i64 64) w fun x16 w => CondK x16 (W z Try.prog 51 (Code.loop dispatcherref14_Posted_all_L2) (blkK 2 (blkK 1 (seqK (sx z Try.prog 51 dispatcherref14_Posted_all_R3 K) K))) (up (up (up ρ 15 (ρ 11)) 16 x16) 12 (Value.int .i64 0)) w) (K (.exit 0) (up (up ρ 15 (ρ 11)) 16 x16) w)
theorem dispatcherref14_Posted_all_L0_eq (z : At) (K : Exit → Sl → World → Prop) (ρ : Sl) (w : World) : sx z Try.prog 51 dispatcherref14_Posted_all_L0 K ρ w = dispatcherref14_Posted_all_L0_F z K ρ w := by kernel_rfl
theorem dispatcherref14_Posted_all_L0_ok : dstOk 51 dispatcherref14_Posted_all_L0 = true := by kernel_rfl
noncomputable def dispatcherref14_Posted_all_R1_F (z : At) (K : Exit → Sl → World → Prop) (ρ : Sl) (w : World) : Prop :=
  K .ret (up (up ρ 50 (ρ 9)) 8 (ρ 9)) w
theorem dispatcherref14_Posted_all_R1_eq (z : At) (K : Exit → Sl → World → Prop) (ρ : Sl) (w : World) : sx z Try.prog 51 dispatcherref14_Posted_all_R1 K ρ w = dispatcherref14_Posted_all_R1_F z K ρ w := by kernel_rfl
noncomputable def dispatcherref14_Posted_all_L2_F (z : At) (K : Exit → Sl → World → Prop) (ρ : Sl) (w : World) : Prop :=
  IK Try.prog .len #[31] 3 [false] [(ρ 10)] w fun x21 w => BK Try.prog .lss 3 (.tmp 19) (.tmp 21) (ρ 12) x21 w fun x22 w => CondK x22 (W z Try.prog 51 dispatcherref14_Posted_all_R5 (seqK (sx z Try.prog 51 dispatcherref14_Posted_all_R6 (blkK 3 (seqK (sx z Try.prog 51 dispatcherref14_Posted_all_R4 K) K))) (blkK 3 (seqK (sx z Try.prog 51 dispatcherref14_Posted_all_R4 K) K))) (up (up (up (up ρ 19 (ρ 12)) 20 (ρ 10)) 21 x21) 22 x22) w) (K (.exit 2) (up (up (up (up ρ 19 (ρ 12)) 20 (ρ 10)) 21 x21) 22 x22) w)
theorem dispatcherref14_Posted_all_L2_eq (z : At) (K : Exit → Sl → World → Prop) (ρ : Sl) (w : World) : sx z Try.prog 51 dispatcherref14_Posted_all_L2 K ρ w = dispatcherref14_Posted_all_L2_F z K ρ w := by kernel_rfl
theorem dispatcherref14_Posted_all_L2_ok : dstOk 51 dispatcherref14_Posted_all_L2 = true := by kernel_rfl
noncomputable def dispatcherref14_Posted_all_R3_F (z : At) (K : Exit → Sl → World → Prop) (ρ : Sl) (w : World) : Prop :=
  BK Try.prog .add 3 (.tmp 17) (.const (Value.int .i64 1)) (ρ 11) (Value.int .i64 1) w fun x18 w => K .normal (up (up (up ρ 17 (ρ 11)) 18 x18) 11 x18) w
theorem dispatcherref14_Posted_all_R3_eq (z : At) (K : Exit → Sl → World → Prop) (ρ : Sl) (w : World) : sx z Try.prog 51 dispatcherref14_Posted_all_R3 K ρ w = dispatcherref14_Posted_all_R3_F z K ρ w := by kernel_rfl
noncomputable def dispatcherref14_Posted_all_R4_F (z : At) (K : Exit → Sl → World → Prop) (ρ : Sl) (w : World) : Prop :=
  BK Try.prog .add 3 (.tmp 23) (.const (Value.int .i64 1)) (ρ 12) (Value.int .i64 1) w fun x24 w => K .normal (up (up (up ρ 23 (ρ 12)) 24 x24) 12 x24) w
theorem dispatcherref14_Posted_all_R4_eq (z : At) (K : Exit → Sl → World → Prop) (ρ : Sl) (w : World) : sx z Try.prog 51 dispatcherref14_Posted_all_R4 K ρ w = dispatcherref14_Posted_all_R4_F z K ρ w := by kernel_rfl
noncomputable def dispatcherref14_Posted_all_R5_ops : Array Oper := opsOf dispatcherref14_Posted_all_R5
def dispatcherref14_Posted_all_R5_T (K : Exit → Sl → World → Prop) (ρ : Sl) (w : World) : Prop :=
  let C : World → Prop := fun w' => w' = w; QK Try.prog C (do pure (Next.value (← Instr.indexAt 31 (ρ 10) (ρ 12)))) fun x27_1 => QK Try.prog C (do pure (Next.value (← Instr.fieldAt 39 x27_1 1))) fun x28_1 => QK Try.prog C (do pure (Next.value (← Instr.loadAt 3 x28_1))) fun x29_1 => QK Try.prog C (do pure (Next.value (← (do eqGuard BinOp.eql 3 (Operand.tmp 29) (Operand.tmp 30) x29_1 (ρ 11); binOp BinOp.eql 3 x29_1 (ρ 11))))) fun x31_1 => QG Try.prog C x31_1 true  (pure (Next.value (ρ 0))) fun x33_1 => QG Try.prog C x31_1 true  (pure (Next.value (ρ 1))) fun x34_1 => QG Try.prog C x31_1 true  (do pure (Next.value (← Instr.loadAt 24 (ρ 6)))) fun x35_1 => QG Try.prog C x31_1 true  (pure (Next.value (ρ 10))) fun x36_1 => QG Try.prog C x31_1 true  (pure (Next.value (ρ 12))) fun x37_1 => QG Try.prog C x31_1 true  (do pure (Next.value (← Instr.indexAt 31 x36_1 x37_1))) fun x38_1 => QG Try.prog C x31_1 true  (do pure (Next.value (← Instr.loadAt 39 x38_1))) fun x39_1 => QG Try.prog C x31_1 true  (pure (Next.value (ρ 3))) fun x40_1 => CG Try.prog x31_1 true (Value.func (Fn.func 73) #[] #[]) [x33_1, x34_1, x35_1, x39_1, x40_1] w fun x41_1 w => PK Try.prog x31_1 x41_1 (Value.bool false) w fun x42_1 w => K Exit.normal (up (up (up (up (up (up (up (up (up (up (up (up (up (up (up (up (up (up ρ 25 (ρ 10)) 26 (ρ 12)) 27 x27_1) 28 x28_1) 29 x29_1) 30 (ρ 11)) 31 x31_1) 32 x31_1) 33 x33_1) 34 x34_1) 35 x35_1) 36 x36_1) 37 x37_1) 38 x38_1) 39 x39_1) 40 x40_1) 41 x41_1) 42 x42_1) w
theorem dispatcherref14_Posted_all_R5_tail {D : List Deferred} {K : Exit → Sl → World → Prop} {ρ : Sl} {w : World} (h : dispatcherref14_Posted_all_R5_T K ρ { w with drawn := w.drawn + 1 }) : W ⟨none, D⟩ Try.prog 51 dispatcherref14_Posted_all_R5 K ρ w := by
  have e : dispatcherref14_Posted_all_R5 = .region (idOf dispatcherref14_Posted_all_R5) dispatcherref14_Posted_all_R5_ops true := by kernel_rfl
  have q : sxq Try.prog (fun w' => w' = { w with drawn := w.drawn + 1 }) dispatcherref14_Posted_all_R5_ops (fun ρ' => sxL Try.prog dispatcherref14_Posted_all_R5_ops (K .normal) (dispatcherref14_Posted_all_R5_ops.toList.drop 16) ρ' { w with drawn := w.drawn + 1 }) (dispatcherref14_Posted_all_R5_ops.toList.take 16) ρ = dispatcherref14_Posted_all_R5_T K ρ { w with drawn := w.drawn + 1 } := by kernel_rfl
  rw [e]
  exact W_tail 16 (by kernel_rfl) (by kernel_rfl) (by kernel_rfl) (by kernel_rfl) (Eq.mpr q h)
noncomputable def dispatcherref14_Posted_all_R6_F (z : At) (K : Exit → Sl → World → Prop) (ρ : Sl) (w : World) : Prop :=
  CondK (ρ 42) (VK Try.prog (Instr.indexAt 31 (ρ 10) (ρ 12)) w fun x46 w => VK Try.prog (Instr.loadAt 39 x46) w fun x47 w => VK Try.prog (Instr.buildSlice 31 1 [(0, x47)].toArray) w fun x48 w => IK Try.prog .append #[31, 31] 31 [false, false] [(ρ 9), x48] w fun x49 w => K .normal (up (up (up (up (up (up (up (up ρ 43 (ρ 9)) 44 (ρ 10)) 45 (ρ 12)) 46 x46) 47 x47) 48 x48) 49 x49) 9 x49) w) (K .normal ρ w)
theorem dispatcherref14_Posted_all_R6_eq (z : At) (K : Exit → Sl → World → Prop) (ρ : Sl) (w : World) : sx z Try.prog 51 dispatcherref14_Posted_all_R6 K ρ w = dispatcherref14_Posted_all_R6_F z K ρ w := by kernel_rfl
noncomputable def dispatcherref14_Posted_all_F (a0 a1 a2 a3 : Value) (w : World) (R : Value → World → Prop) : Prop :=
  VK Try.prog (Instr.box 24 a2) w fun x6 w => CK Try.prog (Value.func (Fn.func 37) #[] #[]) [a1] w fun x14 w => W fn_ Try.prog 51 (Code.loop dispatcherref14_Posted_all_L0) (blkK 0 (seqK (sx fn_ Try.prog 51 dispatcherref14_Posted_all_R1 (retK Try.prog [ResultVar.tmp 8] R)) (retK Try.prog [ResultVar.tmp 8] R))) (up (up (up (up (up (up (up (rho0 [a0, a1, a2, a3]) 6 x6) 8 (Value.slice none 0 0)) 9 (Value.slice none 0 0)) 13 a1) 14 x14) 10 x14) 11 (Value.int .i64 0)) w
theorem dispatcherref14_Posted_all_eq (a0 a1 a2 a3 : Value) (w : World) (R : Value → World → Prop) : sx fn_ Try.prog 51 dispatcherref14_Posted_all_b (retK Try.prog Try.f58.results.toList R) (rho0 [a0, a1, a2, a3]) w = dispatcherref14_Posted_all_F a0 a1 a2 a3 w R := by kernel_rfl
theorem dispatcherref14_Posted_all_calls {a0 a1 a2 a3 : Value} {w : World} {R : Value → World → Prop} (h : dispatcherref14_Posted_all_F a0 a1 a2 a3 w R) : Calls Try.prog 58 #[a0, a1, a2, a3] w fun e w' => ∃ v, e = .returned v ∧ R v w' :=
  Go.X.calls_of_sx (n := 51) (c := dispatcherref14_Posted_all_b) Try.func58 (by kernel_rfl) (by kernel_rfl) (Nat.le_of_ble_eq_true rfl) (by kernel_rfl) (Eq.mpr (dispatcherref14_Posted_all_eq a0 a1 a2 a3 w R) h)
noncomputable def slices_ContainsFunc_posted_Receive_posted_Receive_b : Code := (Try.f64.body).getD .skip
noncomputable def slices_ContainsFunc_posted_Receive_posted_Receive_F (a0 a1 : Value) (w : World) (R : Value → World → Prop) : Prop :=
  CK Try.prog (Value.func (Fn.func 66) #[] #[]) [a0, a1] w fun x7 w => BK Try.prog .geq 3 (.tmp 7) (.const (Value.int .i64 0)) x7 (Value.int .i64 0) w fun x8 w => R x8 w
theorem slices_ContainsFunc_posted_Receive_posted_Receive_eq (a0 a1 : Value) (w : World) (R : Value → World → Prop) : sx fn_ Try.prog 9 slices_ContainsFunc_posted_Receive_posted_Receive_b (retK Try.prog Try.f64.results.toList R) (rho0 [a0, a1]) w = slices_ContainsFunc_posted_Receive_posted_Receive_F a0 a1 w R := by kernel_rfl
theorem slices_ContainsFunc_posted_Receive_posted_Receive_calls {a0 a1 : Value} {w : World} {R : Value → World → Prop} (h : slices_ContainsFunc_posted_Receive_posted_Receive_F a0 a1 w R) : Calls Try.prog 64 #[a0, a1] w fun e w' => ∃ v, e = .returned v ∧ R v w' :=
  Go.X.calls_of_sx (n := 9) (c := slices_ContainsFunc_posted_Receive_posted_Receive_b) Try.func64 (by kernel_rfl) (by kernel_rfl) (Nat.le_of_ble_eq_true rfl) (by kernel_rfl) (Eq.mpr (slices_ContainsFunc_posted_Receive_posted_Receive_eq a0 a1 w R) h)
noncomputable def posted_free_1_b : Code := (Try.f65.body).getD .skip
noncomputable def posted_free_1_F (a0 a1 : Value) (w : World) (R : Value → World → Prop) : Prop :=
  VK Try.prog (Instr.box 24 a0) w fun x2 w => VK Try.prog (Instr.loadAt 24 x2) w fun x4 w => VK Try.prog (Instr.loadAt 39 a1) w fun x5 w => CK Try.prog (Value.func (Fn.func 48) #[] #[]) [x4, x5] w fun x6 w => R x6 w
theorem posted_free_1_eq (a0 a1 : Value) (w : World) (R : Value → World → Prop) : sx fn_ Try.prog 7 posted_free_1_b (retK Try.prog Try.f65.results.toList R) (rho0 [a0, a1]) w = posted_free_1_F a0 a1 w R := by kernel_rfl
theorem posted_free_1_calls {a0 a1 : Value} {w : World} {R : Value → World → Prop} (h : posted_free_1_F a0 a1 w R) : Calls Try.prog 65 #[a0, a1] w fun e w' => ∃ v, e = .returned v ∧ R v w' :=
  Go.X.calls_of_sx (n := 7) (c := posted_free_1_b) Try.func65 (by kernel_rfl) (by kernel_rfl) (Nat.le_of_ble_eq_true rfl) (by kernel_rfl) (Eq.mpr (posted_free_1_eq a0 a1 w R) h)
noncomputable def slices_IndexFunc_posted_Receive_posted_Receive_b : Code := (Try.f66.body).getD .skip
noncomputable def slices_IndexFunc_posted_Receive_posted_Receive_L0 : Code := cAt [1, 0, 1, 0, 0] slices_IndexFunc_posted_Receive_posted_Receive_b
noncomputable def slices_IndexFunc_posted_Receive_posted_Receive_R1 : Code := cAt [1, 1] slices_IndexFunc_posted_Receive_posted_Receive_b
noncomputable def slices_IndexFunc_posted_Receive_posted_Receive_L0_F (z : At) (K : Exit → Sl → World → Prop) (ρ : Sl) (w : World) : Prop :=
  BK Try.prog .lss 3 (.tmp 8) (.tmp 7) (ρ 8) (ρ 7) w fun x9 w => CondK x9 (VK Try.prog (Instr.indexAt 41 (ρ 0) (ρ 8)) w fun x14 w => VK Try.prog (Instr.loadAt 24 x14) w fun x15 w => CK Try.prog (ρ 1) [x15] w fun x16 w => CondK x16 (K .ret (up (up (up (up (up (up (up (up (up (up (up ρ 9 x9) 10 (ρ 8)) 5 (ρ 8)) 11 (ρ 1)) 12 (ρ 0)) 13 (ρ 8)) 14 x14) 15 x15) 16 x16) 17 (ρ 8)) 4 (ρ 8)) w) (BK Try.prog .add 3 (.tmp 8) (.const (Value.int .i64 1)) (ρ 8) (Value.int .i64 1) w fun x18 w => K .normal (up (up (up (up (up (up (up (up (up (up (up ρ 9 x9) 10 (ρ 8)) 5 (ρ 8)) 11 (ρ 1)) 12 (ρ 0)) 13 (ρ 8)) 14 x14) 15 x15) 16 x16) 18 x18) 8 x18) w)) (K (.exit 0) (up ρ 9 x9) w)
theorem slices_IndexFunc_posted_Receive_posted_Receive_L0_eq (z : At) (K : Exit → Sl → World → Prop) (ρ : Sl) (w : World) : sx z Try.prog 19 slices_IndexFunc_posted_Receive_posted_Receive_L0 K ρ w = slices_IndexFunc_posted_Receive_posted_Receive_L0_F z K ρ w := by kernel_rfl
theorem slices_IndexFunc_posted_Receive_posted_Receive_L0_ok : dstOk 19 slices_IndexFunc_posted_Receive_posted_Receive_L0 = true := by kernel_rfl
noncomputable def slices_IndexFunc_posted_Receive_posted_Receive_R1_F (z : At) (K : Exit → Sl → World → Prop) (ρ : Sl) (w : World) : Prop :=
  K .ret (up ρ 4 (Value.int .i64 (-1))) w
theorem slices_IndexFunc_posted_Receive_posted_Receive_R1_eq (z : At) (K : Exit → Sl → World → Prop) (ρ : Sl) (w : World) : sx z Try.prog 19 slices_IndexFunc_posted_Receive_posted_Receive_R1 K ρ w = slices_IndexFunc_posted_Receive_posted_Receive_R1_F z K ρ w := by kernel_rfl
noncomputable def slices_IndexFunc_posted_Receive_posted_Receive_F (a0 a1 : Value) (w : World) (R : Value → World → Prop) : Prop :=
  IK Try.prog .len #[41] 3 [false] [a0] w fun x7 w => W fn_ Try.prog 19 (Code.loop slices_IndexFunc_posted_Receive_posted_Receive_L0) (blkK 0 (seqK (sx fn_ Try.prog 19 slices_IndexFunc_posted_Receive_posted_Receive_R1 (retK Try.prog [ResultVar.tmp 4] R)) (retK Try.prog [ResultVar.tmp 4] R))) (up (up (up (up (rho0 [a0, a1]) 4 (Value.int .i64 0)) 6 a0) 7 x7) 8 (Value.int .i64 0)) w
theorem slices_IndexFunc_posted_Receive_posted_Receive_eq (a0 a1 : Value) (w : World) (R : Value → World → Prop) : sx fn_ Try.prog 19 slices_IndexFunc_posted_Receive_posted_Receive_b (retK Try.prog Try.f66.results.toList R) (rho0 [a0, a1]) w = slices_IndexFunc_posted_Receive_posted_Receive_F a0 a1 w R := by kernel_rfl
theorem slices_IndexFunc_posted_Receive_posted_Receive_calls {a0 a1 : Value} {w : World} {R : Value → World → Prop} (h : slices_IndexFunc_posted_Receive_posted_Receive_F a0 a1 w R) : Calls Try.prog 66 #[a0, a1] w fun e w' => ∃ v, e = .returned v ∧ R v w' :=
  Go.X.calls_of_sx (n := 19) (c := slices_IndexFunc_posted_Receive_posted_Receive_b) Try.func66 (by kernel_rfl) (by kernel_rfl) (Nat.le_of_ble_eq_true rfl) (by kernel_rfl) (Eq.mpr (slices_IndexFunc_posted_Receive_posted_Receive_eq a0 a1 w R) h)
noncomputable def posted_Posted_place_1_b : Code := (Try.f67.body).getD .skip
noncomputable def posted_Posted_place_1_F (a0 a1 : Value) (w : World) (R : Value → World → Prop) : Prop :=
  VK Try.prog (Instr.box 24 a0) w fun x2 w => VK Try.prog (Instr.fieldAt 24 x2 2) w fun x4 w => VK Try.prog (Instr.loadAt 3 x4) w fun x5 w => VK Try.prog (Instr.loadAt 3 a1) w fun x6 w => BK Try.prog .eql 3 (.tmp 5) (.tmp 6) x5 x6 w fun x7 w => R x7 w
theorem posted_Posted_place_1_eq (a0 a1 : Value) (w : World) (R : Value → World → Prop) : sx fn_ Try.prog 8 posted_Posted_place_1_b (retK Try.prog Try.f67.results.toList R) (rho0 [a0, a1]) w = posted_Posted_place_1_F a0 a1 w R := by kernel_rfl
theorem posted_Posted_place_1_calls {a0 a1 : Value} {w : World} {R : Value → World → Prop} (h : posted_Posted_place_1_F a0 a1 w R) : Calls Try.prog 67 #[a0, a1] w fun e w' => ∃ v, e = .returned v ∧ R v w' :=
  Go.X.calls_of_sx (n := 8) (c := posted_Posted_place_1_b) Try.func67 (by kernel_rfl) (by kernel_rfl) (Nat.le_of_ble_eq_true rfl) (by kernel_rfl) (Eq.mpr (posted_Posted_place_1_eq a0 a1 w R) h)
noncomputable def dispatcherref14_Posted_its_b : Code := (Try.f73.body).getD .skip
noncomputable def dispatcherref14_Posted_its_L0 : Code := cAt [1, 1, 1, 0, 1, 0, 0] dispatcherref14_Posted_its_b
noncomputable def dispatcherref14_Posted_its_R1 : Code := cAt [1, 1, 1, 1] dispatcherref14_Posted_its_b
noncomputable def dispatcherref14_Posted_its_R2 : Code := cAt [1, 1, 1, 0, 1, 0, 0, 1, 0, 0, 0] dispatcherref14_Posted_its_b
noncomputable def dispatcherref14_Posted_its_R3 : Code := cAt [1, 1, 1, 0, 1, 0, 0, 1, 0, 0, 1] dispatcherref14_Posted_its_b
noncomputable def dispatcherref14_Posted_its_R4 : Code := cAt [1, 1, 1, 0, 1, 0, 0, 1, 1] dispatcherref14_Posted_its_b
noncomputable def dispatcherref14_Posted_its_L5 : Code := cAt [1, 1, 1, 1, 1, 0, 1, 0, 0] dispatcherref14_Posted_its_b
noncomputable def dispatcherref14_Posted_its_R6 : Code := cAt [1, 1, 1, 1, 1, 1] dispatcherref14_Posted_its_b
noncomputable def dispatcherref14_Posted_its_R7 : Code := cAt [1, 1, 1, 1, 1, 0, 1, 0, 0, 1, 0, 0, 0] dispatcherref14_Posted_its_b
noncomputable def dispatcherref14_Posted_its_R8 : Code := cAt [1, 1, 1, 1, 1, 0, 1, 0, 0, 1, 0, 0, 1] dispatcherref14_Posted_its_b
noncomputable def dispatcherref14_Posted_its_R9 : Code := cAt [1, 1, 1, 1, 1, 0, 1, 0, 0, 1, 1] dispatcherref14_Posted_its_b
noncomputable def dispatcherref14_Posted_its_L0_F (z : At) (K : Exit → Sl → World → Prop) (ρ : Sl) (w : World) : Prop :=
  IK Try.prog .len #[31] 3 [false] [(ρ 11)] w fun x28 w => BK Try.prog .lss 3 (.tmp 26) (.tmp 28) (ρ 12) x28 w fun x29 w => CondK x29 (W z Try.prog 67 dispatcherref14_Posted_its_R2 (seqK (sx z Try.prog 67 dispatcherref14_Posted_its_R3 (blkK 1 (seqK (sx z Try.prog 67 dispatcherref14_Posted_its_R4 K) K))) (blkK 1 (seqK (sx z Try.prog 67 dispatcherref14_Posted_its_R4 K) K))) (up (up (up (up ρ 26 (ρ 12)) 27 (ρ 11)) 28 x28) 29 x29) w) (K (.exit 0) (up (up (up (up ρ 26 (ρ 12)) 27 (ρ 11)) 28 x28) 29 x29) w)
theorem dispatcherref14_Posted_its_L0_eq (z : At) (K : Exit → Sl → World → Prop) (ρ : Sl) (w : World) : sx z Try.prog 67 dispatcherref14_Posted_its_L0 K ρ w = dispatcherref14_Posted_its_L0_F z K ρ w := by kernel_rfl
theorem dispatcherref14_Posted_its_L0_ok : dstOk 67 dispatcherref14_Posted_its_L0 = true := by kernel_rfl
noncomputable def dispatcherref14_Posted_its_R1_F (z : At) (K : Exit → Sl → World → Prop) (ρ : Sl) (w : World) : Prop :=
  VK Try.prog (Instr.fieldAt 24 (ρ 7) 1) w fun x39 w => VK Try.prog (Instr.loadAt 3 x39) w fun x40 w => CK Try.prog (Value.func (Fn.func 35) #[] #[]) [(ρ 0), x40] w fun x41 w => W z Try.prog 67 (Code.loop dispatcherref14_Posted_its_L5) (blkK 2 (seqK (sx z Try.prog 67 dispatcherref14_Posted_its_R6 K) K)) (up (up (up (up (up (up ρ 38 (ρ 0)) 39 x39) 40 x40) 41 x41) 13 x41) 14 (Value.int .i64 0)) w
theorem dispatcherref14_Posted_its_R1_eq (z : At) (K : Exit → Sl → World → Prop) (ρ : Sl) (w : World) : sx z Try.prog 67 dispatcherref14_Posted_its_R1 K ρ w = dispatcherref14_Posted_its_R1_F z K ρ w := by kernel_rfl
noncomputable def dispatcherref14_Posted_its_R2_ops : Array Oper := opsOf dispatcherref14_Posted_its_R2
def dispatcherref14_Posted_its_R2_T (K : Exit → Sl → World → Prop) (ρ : Sl) (w : World) : Prop :=
  let C : World → Prop := fun w' => w' = w; QK Try.prog C (do pure (Next.value (← Instr.loadAt 24 (ρ 7)))) fun x32_1 => QK Try.prog C (do pure (Next.value (← Instr.indexAt 31 (ρ 11) (ρ 12)))) fun x35_1 => QK Try.prog C (do pure (Next.value (← Instr.loadAt 39 x35_1))) fun x36_1 => CK Try.prog (Value.func (Fn.func 38) #[] #[]) [x32_1, x36_1] w fun x37_1 w => K Exit.normal (up (up (up (up (up (up ρ 32 x32_1) 33 (ρ 11)) 34 (ρ 12)) 35 x35_1) 36 x36_1) 37 x37_1) w
theorem dispatcherref14_Posted_its_R2_tail {D : List Deferred} {K : Exit → Sl → World → Prop} {ρ : Sl} {w : World} (h : dispatcherref14_Posted_its_R2_T K ρ { w with drawn := w.drawn + 1 }) : W ⟨none, D⟩ Try.prog 67 dispatcherref14_Posted_its_R2 K ρ w := by
  have e : dispatcherref14_Posted_its_R2 = .region (idOf dispatcherref14_Posted_its_R2) dispatcherref14_Posted_its_R2_ops true := by kernel_rfl
  have q : sxq Try.prog (fun w' => w' = { w with drawn := w.drawn + 1 }) dispatcherref14_Posted_its_R2_ops (fun ρ' => sxL Try.prog dispatcherref14_Posted_its_R2_ops (K .normal) (dispatcherref14_Posted_its_R2_ops.toList.drop 5) ρ' { w with drawn := w.drawn + 1 }) (dispatcherref14_Posted_its_R2_ops.toList.take 5) ρ = dispatcherref14_Posted_its_R2_T K ρ { w with drawn := w.drawn + 1 } := by kernel_rfl
  rw [e]
  exact W_tail 5 (by kernel_rfl) (by kernel_rfl) (by kernel_rfl) (by kernel_rfl) (Eq.mpr q h)
noncomputable def dispatcherref14_Posted_its_R3_F (z : At) (K : Exit → Sl → World → Prop) (ρ : Sl) (w : World) : Prop :=
  CondK (ρ 37) (K .ret (up ρ 10 (Value.bool false)) w) (K .normal ρ w)
theorem dispatcherref14_Posted_its_R3_eq (z : At) (K : Exit → Sl → World → Prop) (ρ : Sl) (w : World) : sx z Try.prog 67 dispatcherref14_Posted_its_R3 K ρ w = dispatcherref14_Posted_its_R3_F z K ρ w := by kernel_rfl
noncomputable def dispatcherref14_Posted_its_R4_F (z : At) (K : Exit → Sl → World → Prop) (ρ : Sl) (w : World) : Prop :=
  BK Try.prog .add 3 (.tmp 30) (.const (Value.int .i64 1)) (ρ 12) (Value.int .i64 1) w fun x31 w => K .normal (up (up (up ρ 30 (ρ 12)) 31 x31) 12 x31) w
theorem dispatcherref14_Posted_its_R4_eq (z : At) (K : Exit → Sl → World → Prop) (ρ : Sl) (w : World) : sx z Try.prog 67 dispatcherref14_Posted_its_R4 K ρ w = dispatcherref14_Posted_its_R4_F z K ρ w := by kernel_rfl
noncomputable def dispatcherref14_Posted_its_L5_F (z : At) (K : Exit → Sl → World → Prop) (ρ : Sl) (w : World) : Prop :=
  IK Try.prog .len #[41] 3 [false] [(ρ 13)] w fun x44 w => BK Try.prog .lss 3 (.tmp 42) (.tmp 44) (ρ 14) x44 w fun x45 w => CondK x45 (W z Try.prog 67 dispatcherref14_Posted_its_R7 (seqK (sx z Try.prog 67 dispatcherref14_Posted_its_R8 (blkK 3 (seqK (sx z Try.prog 67 dispatcherref14_Posted_its_R9 K) K))) (blkK 3 (seqK (sx z Try.prog 67 dispatcherref14_Posted_its_R9 K) K))) (up (up (up (up ρ 42 (ρ 14)) 43 (ρ 13)) 44 x44) 45 x45) w) (K (.exit 2) (up (up (up (up ρ 42 (ρ 14)) 43 (ρ 13)) 44 x44) 45 x45) w)
theorem dispatcherref14_Posted_its_L5_eq (z : At) (K : Exit → Sl → World → Prop) (ρ : Sl) (w : World) : sx z Try.prog 67 dispatcherref14_Posted_its_L5 K ρ w = dispatcherref14_Posted_its_L5_F z K ρ w := by kernel_rfl
theorem dispatcherref14_Posted_its_L5_ok : dstOk 67 dispatcherref14_Posted_its_L5 = true := by kernel_rfl
noncomputable def dispatcherref14_Posted_its_R6_F (z : At) (K : Exit → Sl → World → Prop) (ρ : Sl) (w : World) : Prop :=
  K .ret (up ρ 10 (Value.bool true)) w
theorem dispatcherref14_Posted_its_R6_eq (z : At) (K : Exit → Sl → World → Prop) (ρ : Sl) (w : World) : sx z Try.prog 67 dispatcherref14_Posted_its_R6 K ρ w = dispatcherref14_Posted_its_R6_F z K ρ w := by kernel_rfl
noncomputable def dispatcherref14_Posted_its_R7_ops : Array Oper := opsOf dispatcherref14_Posted_its_R7
def dispatcherref14_Posted_its_R7_T (K : Exit → Sl → World → Prop) (ρ : Sl) (w : World) : Prop :=
  let C : World → Prop := fun w' => w' = w; QG Try.prog C (ρ 4) false  (pure (Next.value (ρ 13))) fun x50_1 => QG Try.prog C (ρ 4) false  (pure (Next.value (ρ 14))) fun x51_1 => QG Try.prog C (ρ 4) false  (do pure (Next.value (← Instr.indexAt 41 x50_1 x51_1))) fun x52_1 => QG Try.prog C (ρ 4) false  (do pure (Next.value (← Instr.fieldAt 24 x52_1 2))) fun x53_1 => QG Try.prog C (ρ 4) false  (do pure (Next.value (← Instr.loadAt 3 x53_1))) fun x54_1 => QG Try.prog C (ρ 4) false  (do pure (Next.value (← Instr.fieldAt 24 (ρ 7) 2))) fun x55_1 => QG Try.prog C (ρ 4) false  (do pure (Next.value (← Instr.loadAt 3 x55_1))) fun x56_1 => QG Try.prog C (ρ 4) false  (do pure (Next.value (← (do eqGuard BinOp.lss 3 (Operand.tmp 54) (Operand.tmp 56) x54_1 x56_1; binOp BinOp.lss 3 x54_1 x56_1)))) fun x57_1 => QK Try.prog C (do pure (Next.value (if ← asBool (ρ 4) then (Value.bool true) else x57_1))) fun x58_1 => QG Try.prog C x58_1 true  (pure (Next.value (ρ 13))) fun x60_1 => QG Try.prog C x58_1 true  (pure (Next.value (ρ 14))) fun x61_1 => QG Try.prog C x58_1 true  (do pure (Next.value (← Instr.indexAt 41 x60_1 x61_1))) fun x62_1 => QG Try.prog C x58_1 true  (do pure (Next.value (← Instr.loadAt 24 x62_1))) fun x63_1 => QG Try.prog C x58_1 true  (do pure (Next.value (← Instr.loadAt 39 (ρ 8)))) fun x64_1 => CG Try.prog x58_1 true (Value.func (Fn.func 38) #[] #[]) [x63_1, x64_1] w fun x65_1 w => PK Try.prog x58_1 x65_1 (Value.bool false) w fun x66_1 w => K Exit.normal (up (up (up (up (up (up (up (up (up (up (up (up (up (up (up (up (up (up (up ρ 48 (ρ 4)) 49 (ρ 4)) 50 x50_1) 51 x51_1) 52 x52_1) 53 x53_1) 54 x54_1) 55 x55_1) 56 x56_1) 57 x57_1) 58 x58_1) 59 x58_1) 60 x60_1) 61 x61_1) 62 x62_1) 63 x63_1) 64 x64_1) 65 x65_1) 66 x66_1) w
theorem dispatcherref14_Posted_its_R7_tail {D : List Deferred} {K : Exit → Sl → World → Prop} {ρ : Sl} {w : World} (h : dispatcherref14_Posted_its_R7_T K ρ { w with drawn := w.drawn + 1 }) : W ⟨none, D⟩ Try.prog 67 dispatcherref14_Posted_its_R7 K ρ w := by
  have e : dispatcherref14_Posted_its_R7 = .region (idOf dispatcherref14_Posted_its_R7) dispatcherref14_Posted_its_R7_ops true := by kernel_rfl
  have q : sxq Try.prog (fun w' => w' = { w with drawn := w.drawn + 1 }) dispatcherref14_Posted_its_R7_ops (fun ρ' => sxL Try.prog dispatcherref14_Posted_its_R7_ops (K .normal) (dispatcherref14_Posted_its_R7_ops.toList.drop 17) ρ' { w with drawn := w.drawn + 1 }) (dispatcherref14_Posted_its_R7_ops.toList.take 17) ρ = dispatcherref14_Posted_its_R7_T K ρ { w with drawn := w.drawn + 1 } := by kernel_rfl
  rw [e]
  exact W_tail 17 (by kernel_rfl) (by kernel_rfl) (by kernel_rfl) (by kernel_rfl) (Eq.mpr q h)
noncomputable def dispatcherref14_Posted_its_R8_F (z : At) (K : Exit → Sl → World → Prop) (ρ : Sl) (w : World) : Prop :=
  CondK (ρ 66) (K .ret (up ρ 10 (Value.bool false)) w) (K .normal ρ w)
theorem dispatcherref14_Posted_its_R8_eq (z : At) (K : Exit → Sl → World → Prop) (ρ : Sl) (w : World) : sx z Try.prog 67 dispatcherref14_Posted_its_R8 K ρ w = dispatcherref14_Posted_its_R8_F z K ρ w := by kernel_rfl
noncomputable def dispatcherref14_Posted_its_R9_F (z : At) (K : Exit → Sl → World → Prop) (ρ : Sl) (w : World) : Prop :=
  BK Try.prog .add 3 (.tmp 46) (.const (Value.int .i64 1)) (ρ 14) (Value.int .i64 1) w fun x47 w => K .normal (up (up (up ρ 46 (ρ 14)) 47 x47) 14 x47) w
theorem dispatcherref14_Posted_its_R9_eq (z : At) (K : Exit → Sl → World → Prop) (ρ : Sl) (w : World) : sx z Try.prog 67 dispatcherref14_Posted_its_R9 K ρ w = dispatcherref14_Posted_its_R9_F z K ρ w := by kernel_rfl
noncomputable def dispatcherref14_Posted_its_F (a0 a1 a2 a3 a4 : Value) (w : World) (R : Value → World → Prop) : Prop :=
  VK Try.prog (Instr.box 24 a2) w fun x7 w => VK Try.prog (Instr.box 39 a3) w fun x8 w => VK Try.prog (Instr.fieldAt 39 x8 7) w fun x15 w => VK Try.prog (Instr.loadAt 4 x15) w fun x16 w => VG Try.prog x16 false (Instr.loadAt 24 x7) w fun x18 w => VG Try.prog x16 false (Instr.loadAt 39 x8) w fun x19 w => CG Try.prog x16 false (Value.func (Fn.func 38) #[] #[]) [x18, x19] w fun x20 w => VG Try.prog x16 false (Op.unary UnOp.not x20) w fun x21 w => PK Try.prog x16 (Value.bool true) x21 w fun x22 w => CondK x22 (R (Value.bool false) w) (VK Try.prog (Instr.loadAt 39 x8) w fun x24 w => CK Try.prog (Value.func (Fn.func 81) #[] #[]) [a1, x24] w fun x25 w => W fn_ Try.prog 67 (Code.loop dispatcherref14_Posted_its_L0) (blkK 0 (seqK (sx fn_ Try.prog 67 dispatcherref14_Posted_its_R1 (retK Try.prog [ResultVar.tmp 10] R)) (retK Try.prog [ResultVar.tmp 10] R))) (up (up (up (up (up (up (up (up (up (up (up (up (up (up (up (up (rho0 [a0, a1, a2, a3, a4]) 7 x7) 8 x8) 10 (Value.bool false)) 15 x15) 16 x16) 17 x16) 18 x18) 19 x19) 20 x20) 21 x21) 22 x22) 23 a1) 24 x24) 25 x25) 11 x25) 12 (Value.int .i64 0)) w)
theorem dispatcherref14_Posted_its_eq (a0 a1 a2 a3 a4 : Value) (w : World) (R : Value → World → Prop) : sx fn_ Try.prog 67 dispatcherref14_Posted_its_b (retK Try.prog Try.f73.results.toList R) (rho0 [a0, a1, a2, a3, a4]) w = dispatcherref14_Posted_its_F a0 a1 a2 a3 a4 w R := by kernel_rfl
theorem dispatcherref14_Posted_its_calls {a0 a1 a2 a3 a4 : Value} {w : World} {R : Value → World → Prop} (h : dispatcherref14_Posted_its_F a0 a1 a2 a3 a4 w R) : Calls Try.prog 73 #[a0, a1, a2, a3, a4] w fun e w' => ∃ v, e = .returned v ∧ R v w' :=
  Go.X.calls_of_sx (n := 67) (c := dispatcherref14_Posted_its_b) Try.func73 (by kernel_rfl) (by kernel_rfl) (Nat.le_of_ble_eq_true rfl) (by kernel_rfl) (Eq.mpr (dispatcherref14_Posted_its_eq a0 a1 a2 a3 a4 w R) h)
end Go.Proofs.Ytmnkedgmpbcicaa.XG
set_option linter.unusedVariables false
set_option linter.unusedSimpArgs false
set_option maxRecDepth 8000
namespace Go.X
open Go Go.RowKit
structure Rc where
  key : List UInt8
  rank : Int
  call : Int
  peer : Int
  tag : Int
  req : Int
  done : Bool
  frm : Int
  seq : Int
deriving DecidableEq
def Rc.enc (r : Rc) : List Value := [strV r.key, .int .i64 r.rank, .int .i64 r.call, .int .i64 r.peer, .int .i64 r.tag, .int .i64 r.req, .bool r.done, .int .i64 r.frm, .int .i64 r.seq]
def zRc : Rc := ⟨[], 0, 0, 0, 0, 0, false, 0, 0⟩
theorem Rc.enc_len (m : Rc) : m.enc.length = 8 + 1 := rfl
theorem Rc.enc_one (m : Rc) : m.enc.toArray.all (·.oneCell') = true := by simp [Rc.enc, Value.oneCell', strV]
theorem Rc.enc_mem (l : List Rc) : ∀ u ∈ l.flatMap Rc.enc, u.oneCell' = true := by
  intro u hu
  obtain ⟨m, _, hm⟩ := List.mem_flatMap.1 hu
  have := Rc.enc_one m
  rw [Array.all_eq_true'] at this
  exact this u (by simpa using hm)
def wt (r : Rc) : Bool := !r.done
def fitsV (r : Rc) (m : Ms) : Bool := decide (r.key = m.key) && decide (r.rank = m.to) && (decide (r.peer = -1) || decide (r.peer = m.frm)) && (decide (r.tag = -1) || decide (r.tag = m.tag))
def idxR (p : Rc → Bool) (l : List Rc) : Int := match l.findIdx? p with | some j => j | none => -1
end Go.X
namespace Go.Proofs.Ytmnkedgmpbcicaa.Que
open Go Go.X Go.RowKit Go.Proofs.Ytmnkedgmpbcicaa.XF Go.Proofs.Ytmnkedgmpbcicaa.XG Go.Proofs.Ytmnkedgmpbcicaa.XK
abbrev tRc : TypeId := 24
abbrev tRcS : TypeId := 41
theorem vRcS : Try.prog.underlying tRcS = some (.slice tRc) := by kernel_rfl
theorem cRc : Try.prog.cellsOf tRc = 8 + 1 := by kernel_rfl
theorem iRc : (Try.prog.info? tRc).map (·.size) = some 9 := by kernel_rfl
theorem eRcS : elemOk Try.prog tRcS tRc 9 80 = true := by kernel_rfl
theorem zRc_z : (Try.prog.info? tRc).bind (·.zero) = some (.agg zRc.enc.toArray) := by kernel_rfl
def RcRow (w : World) (s : Value) (l : List Rc) : Prop := reads w (8 + 1) s l.length (l.flatMap Rc.enc)
theorem RcRow.mod {S : Nat → Prop} {w w' : World} {s : Value} {l : List Rc} (h : RcRow w s l) (hm : Mod S w w') (hS : ∀ k, sb s k → ¬ S k) : RcRow w' s l := reads_mod h hm fun k _ q => hS k q
theorem RcRow.calm {w w' : World} {s : Value} {l : List Rc} (h : RcRow w s l) (hm : Mod none_ w w') : RcRow w' s l := h.mod hm fun _ _ => id
theorem RcRow.nil (w : World) : RcRow w (.slice none 0 0) [] := reads_nil _ _
theorem ixRc {w : World} {s : Value} {l : List Rc} {i : Nat} {n : Int} {e : Rc} {K : Value → Value → World → Prop} (h : RcRow w s l) (hi : l[i]? = some e) (hn : n = (i : Int)) (hk : ∀ x, K x (.agg e.enc.toArray) w) :
    VK Try.prog (Instr.indexAt tRcS s (.int .i64 n)) w fun x w => VK Try.prog (Instr.loadAt tRc x) w (K x) := by
  subst hn
  have hlt : i < l.length := (List.getElem?_eq_some_iff.1 hi).1
  refine ixldA vRcS cRc Try.underlying24 rfl h (by omega) (by omega) fun x => ?_
  rw [show ((i : Int).toNat) = i by omega, fl_drop (k := 8 + 1) Rc.enc_len hi]
  exact hk x
theorem ixRcA {w : World} {s : Value} {l : List Rc} {i : Nat} {n : Int} {e : Rc} {K : Value → World → Prop} (h : RcRow w s l) (hi : l[i]? = some e) (hn : n = (i : Int)) (hk : ∀ a, (∀ j u, e.enc[j]? = some u → w.cell? (a.add j) = some u) → K (.pointer (some a)) w) :
    VK Try.prog (Instr.indexAt tRcS s (.int .i64 n)) w K := by
  subst hn
  have hlt : i < l.length := (List.getElem?_eq_some_iff.1 hi).1
  refine ixat vRcS cRc h (by omega) (by omega) fun a ha _ => hk a fun j u hu => ?_
  have hj : j < 8 + 1 := (List.getElem?_eq_some_iff.1 hu).1
  refine ha j u hj ?_
  rw [show ((i : Int).toNat) = i by omega, fl_get (k := 8 + 1) Rc.enc_len hi hj]
  exact hu
theorem appR {w : World} {v : Value} {xs : List Rc} {m : Rc} {B : Nat} {K : Value → Value → World → Prop} (ho : w.ownsRow B tRc 9 v xs.length (xs.flatMap Rc.enc)) (hB : B ≤ w.heap.size) (hl : xs.length ≤ 2000000)
    (hk : ∀ x v' w', w'.ownsRow B tRc 9 v' (xs ++ [m]).length ((xs ++ [m]).flatMap Rc.enc) → Mod (fun b => B ≤ b) w w' → K x v' w') :
    VK Try.prog (Instr.buildSlice tRcS 1 [(0, .agg m.enc.toArray)].toArray) w fun x w => IK Try.prog .append #[tRcS, tRcS] tRcS [false, false] [v, x] w (K x) := by
  refine bs_k (cs := m.enc.toArray) (by kernel_rfl) fun w1 hb1 hm1 hz1 => ?_
  refine ap_any eRcS (owns_mod ho hm1 fun _ _ => id) (reads_blk (size := 9) (n := 1) hb1 rfl) (fun u hu => Rc.enc_mem [m] u (by simpa using hu)) (by unfold maxLen; omega) (by omega) (by omega) fun v' w2 ho2 hm2 hv2 => ?_
  refine hk _ v' w2 ?_ ((hm1.mono fun _ _ z => z.elim).trans (hm2.mono fun b _ z => (owns_bd (owns_mod ho hm1 fun _ _ => id) b z.symm).1))
  rw [List.length_append, List.flatMap_append]
  simpa using ho2
abbrev RowR (w0 : World) (xs : List Rc) : Value → World → Prop := fun v w' => w'.ownsRow w0.heap.size tRc 9 v xs.length (xs.flatMap Rc.enc) ∧ Mod none_ w0 w'
theorem rcSlot_k {K : Value → World → Prop} {w : World} {m : Rc} (hk : ∀ w', w'.heap[w.heap.size]? = some (.cells m.enc.toArray tRc (0, 0)) → Mod none_ w w' → w'.heap.size = w.heap.size + 1 → K (.pointer (some ⟨w.heap.size, 0, none⟩)) w') : VK Try.prog (Instr.alloc tRc true (.tuple #[])) w fun x w => UK Try.prog (Instr.storeAt tRc x (.agg m.enc.toArray)) w fun _ w => K x w := by
  refine al_k (cs := zRc.enc.toArray) zRc_z rfl _ fun w1 hb1 hm1 hz1 => ?_
  refine stS (cs := m.enc.toArray) (old := zRc.enc.toArray) rfl rfl (by rw [iRc]; rfl) rfl (Rc.enc_one _) hb1 fun w2 hb2 hm2 hz2 => ?_
  exact hk w2 hb2 (hm1.fresh hm2 (Nat.le_refl _)) (by omega)
theorem waits_ok (w : World) (r : Rc) : Rt Try.prog 47 #[.agg r.enc.toArray] w fun v w' => v = .bool (wt r) ∧ Mod none_ w w' := by
  refine posted_Receive_waits_calls ?_
  unfold posted_Receive_waits_F
  refine box_k (cs := r.enc.toArray) rfl fun w1 hb1 hm1 hz1 => ?_
  have g : FO Try.prog w1 tRc 6 6 ⟨w.heap.size, 0, none⟩ 4 (.bool r.done) := FO.blk hb1 (by kernel_rfl) vB rfl rfl
  rw [g.e, not_ok]
  exact ⟨rfl, hm1⟩
theorem fits_ok (w : World) (r : Rc) (m : Ms) : Rt Try.prog 48 #[.agg r.enc.toArray, .agg m.enc.toArray] w fun v w' => v = .bool (fitsV r m) ∧ Mod none_ w w' := by
  refine posted_Receive_fits_calls ?_
  unfold posted_Receive_fits_F
  refine box_k (cs := r.enc.toArray) rfl fun w1 hb1 hm1 hz1 => ?_
  refine box_k (cs := m.enc.toArray) rfl fun w2 hb2 hm2 hz2 => ?_
  have hb1' := hm2.blk hb1 id
  have hmm := hm1.trans hm2
  have k0 : FO Try.prog w2 tRc 0 0 ⟨w.heap.size, 0, none⟩ 9 (strV r.key) := FO.blk hb1' (by kernel_rfl) vS rfl rfl
  have k1 : FO Try.prog w2 tRc 1 1 ⟨w.heap.size, 0, none⟩ 3 (.int .i64 r.rank) := FO.blk hb1' (by kernel_rfl) vI rfl rfl
  have k3 : FO Try.prog w2 tRc 3 3 ⟨w.heap.size, 0, none⟩ 3 (.int .i64 r.peer) := FO.blk hb1' (by kernel_rfl) vI rfl rfl
  have k4 : FO Try.prog w2 tRc 4 4 ⟨w.heap.size, 0, none⟩ 3 (.int .i64 r.tag) := FO.blk hb1' (by kernel_rfl) vI rfl rfl
  have g0 : FO Try.prog w2 tMs 0 0 ⟨w1.heap.size, 0, none⟩ 9 (strV m.key) := FO.blk hb2 (by kernel_rfl) vS rfl rfl
  have g1 : FO Try.prog w2 tMs 1 1 ⟨w1.heap.size, 0, none⟩ 3 (.int .i64 m.frm) := FO.blk hb2 (by kernel_rfl) vI rfl rfl
  have g2 : FO Try.prog w2 tMs 2 2 ⟨w1.heap.size, 0, none⟩ 3 (.int .i64 m.to) := FO.blk hb2 (by kernel_rfl) vI rfl rfl
  have g4 : FO Try.prog w2 tMs 4 4 ⟨w1.heap.size, 0, none⟩ 3 (.int .i64 m.tag) := FO.blk hb2 (by kernel_rfl) vI rfl rfl
  have fin : ∀ b, fitsV r m = b → (Value.bool b = .bool (fitsV r m) ∧ Mod none_ w w2) := fun b hb => ⟨by rw [hb], hmm⟩
  rw [k0.e, g0.e, BK_eqlL]
  by_cases c0 : r.key = m.key
  · rw [decide_eq_true c0]
    try simp only [↓VG_u, ↓UG_u, ↓MG_u, ↓NG_u, ↓PG_u, ↓BG_u, ↓CG_u, ↓IG_u, ↓VGtt, ↓VGtf, ↓VGft, ↓VGff, ↓UGtt, ↓UGtf, ↓UGft, ↓UGff, ↓MGtt, ↓MGtf, ↓MGft, ↓MGff, ↓NGtt, ↓NGtf, ↓NGft, ↓NGff, ↓PGtt, ↓PGtf, ↓PGft, ↓PGff, ↓BGtt, ↓BGtf, ↓BGft, ↓BGff, ↓CGtt, ↓CGtf, ↓CGft, ↓CGff, ↓IGtt, ↓IGtf, ↓IGft, ↓IGff, ↓PKt, ↓PKf, ↓CDt, ↓CDf, ↓NOTt, ↓NOTf, ↓NK_ptr]
    rw [k1.e]
    try simp only [↓VG_u, ↓UG_u, ↓MG_u, ↓NG_u, ↓PG_u, ↓BG_u, ↓CG_u, ↓IG_u, ↓VGtt, ↓VGtf, ↓VGft, ↓VGff, ↓UGtt, ↓UGtf, ↓UGft, ↓UGff, ↓MGtt, ↓MGtf, ↓MGft, ↓MGff, ↓NGtt, ↓NGtf, ↓NGft, ↓NGff, ↓PGtt, ↓PGtf, ↓PGft, ↓PGff, ↓BGtt, ↓BGtf, ↓BGft, ↓BGff, ↓CGtt, ↓CGtf, ↓CGft, ↓CGff, ↓IGtt, ↓IGtf, ↓IGft, ↓IGff, ↓PKt, ↓PKf, ↓CDt, ↓CDf, ↓NOTt, ↓NOTf, ↓NK_ptr]
    rw [g2.e]
    try simp only [↓VG_u, ↓UG_u, ↓MG_u, ↓NG_u, ↓PG_u, ↓BG_u, ↓CG_u, ↓IG_u, ↓VGtt, ↓VGtf, ↓VGft, ↓VGff, ↓UGtt, ↓UGtf, ↓UGft, ↓UGff, ↓MGtt, ↓MGtf, ↓MGft, ↓MGff, ↓NGtt, ↓NGtf, ↓NGft, ↓NGff, ↓PGtt, ↓PGtf, ↓PGft, ↓PGff, ↓BGtt, ↓BGtf, ↓BGft, ↓BGff, ↓CGtt, ↓CGtf, ↓CGft, ↓CGff, ↓IGtt, ↓IGtf, ↓IGft, ↓IGff, ↓PKt, ↓PKf, ↓CDt, ↓CDf, ↓NOTt, ↓NOTf, ↓NK_ptr]
    by_cases c1 : r.rank = m.to
    · rw [EQt c1]
      try simp only [↓VG_u, ↓UG_u, ↓MG_u, ↓NG_u, ↓PG_u, ↓BG_u, ↓CG_u, ↓IG_u, ↓VGtt, ↓VGtf, ↓VGft, ↓VGff, ↓UGtt, ↓UGtf, ↓UGft, ↓UGff, ↓MGtt, ↓MGtf, ↓MGft, ↓MGff, ↓NGtt, ↓NGtf, ↓NGft, ↓NGff, ↓PGtt, ↓PGtf, ↓PGft, ↓PGff, ↓BGtt, ↓BGtf, ↓BGft, ↓BGff, ↓CGtt, ↓CGtf, ↓CGft, ↓CGff, ↓IGtt, ↓IGtf, ↓IGft, ↓IGff, ↓PKt, ↓PKf, ↓CDt, ↓CDf, ↓NOTt, ↓NOTf, ↓NK_ptr]
      rw [k3.e]
      try simp only [↓VG_u, ↓UG_u, ↓MG_u, ↓NG_u, ↓PG_u, ↓BG_u, ↓CG_u, ↓IG_u, ↓VGtt, ↓VGtf, ↓VGft, ↓VGff, ↓UGtt, ↓UGtf, ↓UGft, ↓UGff, ↓MGtt, ↓MGtf, ↓MGft, ↓MGff, ↓NGtt, ↓NGtf, ↓NGft, ↓NGff, ↓PGtt, ↓PGtf, ↓PGft, ↓PGff, ↓BGtt, ↓BGtf, ↓BGft, ↓BGff, ↓CGtt, ↓CGtf, ↓CGft, ↓CGff, ↓IGtt, ↓IGtf, ↓IGft, ↓IGff, ↓PKt, ↓PKf, ↓CDt, ↓CDf, ↓NOTt, ↓NOTf, ↓NK_ptr]
      have last : fitsV r m = ((decide (r.peer = -1) || decide (r.peer = m.frm)) && (decide (r.tag = -1) || decide (r.tag = m.tag))) := by unfold fitsV; rw [decide_eq_true c0, decide_eq_true c1]; rfl
      by_cases c2 : r.peer = -1
      · rw [EQt c2]
        try simp only [↓VG_u, ↓UG_u, ↓MG_u, ↓NG_u, ↓PG_u, ↓BG_u, ↓CG_u, ↓IG_u, ↓VGtt, ↓VGtf, ↓VGft, ↓VGff, ↓UGtt, ↓UGtf, ↓UGft, ↓UGff, ↓MGtt, ↓MGtf, ↓MGft, ↓MGff, ↓NGtt, ↓NGtf, ↓NGft, ↓NGff, ↓PGtt, ↓PGtf, ↓PGft, ↓PGff, ↓BGtt, ↓BGtf, ↓BGft, ↓BGff, ↓CGtt, ↓CGtf, ↓CGft, ↓CGff, ↓IGtt, ↓IGtf, ↓IGft, ↓IGff, ↓PKt, ↓PKf, ↓CDt, ↓CDf, ↓NOTt, ↓NOTf, ↓NK_ptr]
        rw [k4.e]
        try simp only [↓VG_u, ↓UG_u, ↓MG_u, ↓NG_u, ↓PG_u, ↓BG_u, ↓CG_u, ↓IG_u, ↓VGtt, ↓VGtf, ↓VGft, ↓VGff, ↓UGtt, ↓UGtf, ↓UGft, ↓UGff, ↓MGtt, ↓MGtf, ↓MGft, ↓MGff, ↓NGtt, ↓NGtf, ↓NGft, ↓NGff, ↓PGtt, ↓PGtf, ↓PGft, ↓PGff, ↓BGtt, ↓BGtf, ↓BGft, ↓BGff, ↓CGtt, ↓CGtf, ↓CGft, ↓CGff, ↓IGtt, ↓IGtf, ↓IGft, ↓IGff, ↓PKt, ↓PKf, ↓CDt, ↓CDf, ↓NOTt, ↓NOTf, ↓NK_ptr]
        by_cases c3 : r.tag = -1
        · rw [EQt c3]
          try simp only [↓VG_u, ↓UG_u, ↓MG_u, ↓NG_u, ↓PG_u, ↓BG_u, ↓CG_u, ↓IG_u, ↓VGtt, ↓VGtf, ↓VGft, ↓VGff, ↓UGtt, ↓UGtf, ↓UGft, ↓UGff, ↓MGtt, ↓MGtf, ↓MGft, ↓MGff, ↓NGtt, ↓NGtf, ↓NGft, ↓NGff, ↓PGtt, ↓PGtf, ↓PGft, ↓PGff, ↓BGtt, ↓BGtf, ↓BGft, ↓BGff, ↓CGtt, ↓CGtf, ↓CGft, ↓CGff, ↓IGtt, ↓IGtf, ↓IGft, ↓IGff, ↓PKt, ↓PKf, ↓CDt, ↓CDf, ↓NOTt, ↓NOTf, ↓NK_ptr]
          exact fin true (by rw [last, decide_eq_true c2, decide_eq_true c3]; rfl)
        · rw [EQf c3]
          try simp only [↓VG_u, ↓UG_u, ↓MG_u, ↓NG_u, ↓PG_u, ↓BG_u, ↓CG_u, ↓IG_u, ↓VGtt, ↓VGtf, ↓VGft, ↓VGff, ↓UGtt, ↓UGtf, ↓UGft, ↓UGff, ↓MGtt, ↓MGtf, ↓MGft, ↓MGff, ↓NGtt, ↓NGtf, ↓NGft, ↓NGff, ↓PGtt, ↓PGtf, ↓PGft, ↓PGff, ↓BGtt, ↓BGtf, ↓BGft, ↓BGff, ↓CGtt, ↓CGtf, ↓CGft, ↓CGff, ↓IGtt, ↓IGtf, ↓IGft, ↓IGff, ↓PKt, ↓PKf, ↓CDt, ↓CDf, ↓NOTt, ↓NOTf, ↓NK_ptr]
          rw [k4.e]
          try simp only [↓VG_u, ↓UG_u, ↓MG_u, ↓NG_u, ↓PG_u, ↓BG_u, ↓CG_u, ↓IG_u, ↓VGtt, ↓VGtf, ↓VGft, ↓VGff, ↓UGtt, ↓UGtf, ↓UGft, ↓UGff, ↓MGtt, ↓MGtf, ↓MGft, ↓MGff, ↓NGtt, ↓NGtf, ↓NGft, ↓NGff, ↓PGtt, ↓PGtf, ↓PGft, ↓PGff, ↓BGtt, ↓BGtf, ↓BGft, ↓BGff, ↓CGtt, ↓CGtf, ↓CGft, ↓CGff, ↓IGtt, ↓IGtf, ↓IGft, ↓IGff, ↓PKt, ↓PKf, ↓CDt, ↓CDf, ↓NOTt, ↓NOTf, ↓NK_ptr]
          rw [g4.e]
          try simp only [↓VG_u, ↓UG_u, ↓MG_u, ↓NG_u, ↓PG_u, ↓BG_u, ↓CG_u, ↓IG_u, ↓VGtt, ↓VGtf, ↓VGft, ↓VGff, ↓UGtt, ↓UGtf, ↓UGft, ↓UGff, ↓MGtt, ↓MGtf, ↓MGft, ↓MGff, ↓NGtt, ↓NGtf, ↓NGft, ↓NGff, ↓PGtt, ↓PGtf, ↓PGft, ↓PGff, ↓BGtt, ↓BGtf, ↓BGft, ↓BGff, ↓CGtt, ↓CGtf, ↓CGft, ↓CGff, ↓IGtt, ↓IGtf, ↓IGft, ↓IGff, ↓PKt, ↓PKf, ↓CDt, ↓CDf, ↓NOTt, ↓NOTf, ↓NK_ptr]
          rw [BK_eql]
          try simp only [↓VG_u, ↓UG_u, ↓MG_u, ↓NG_u, ↓PG_u, ↓BG_u, ↓CG_u, ↓IG_u, ↓VGtt, ↓VGtf, ↓VGft, ↓VGff, ↓UGtt, ↓UGtf, ↓UGft, ↓UGff, ↓MGtt, ↓MGtf, ↓MGft, ↓MGff, ↓NGtt, ↓NGtf, ↓NGft, ↓NGff, ↓PGtt, ↓PGtf, ↓PGft, ↓PGff, ↓BGtt, ↓BGtf, ↓BGft, ↓BGff, ↓CGtt, ↓CGtf, ↓CGft, ↓CGff, ↓IGtt, ↓IGtf, ↓IGft, ↓IGff, ↓PKt, ↓PKf, ↓CDt, ↓CDf, ↓NOTt, ↓NOTf, ↓NK_ptr]
          refine fin _ ?_
          rw [last, decide_eq_true c2, decide_eq_false c3]
          rfl
      · rw [EQf c2]
        try simp only [↓VG_u, ↓UG_u, ↓MG_u, ↓NG_u, ↓PG_u, ↓BG_u, ↓CG_u, ↓IG_u, ↓VGtt, ↓VGtf, ↓VGft, ↓VGff, ↓UGtt, ↓UGtf, ↓UGft, ↓UGff, ↓MGtt, ↓MGtf, ↓MGft, ↓MGff, ↓NGtt, ↓NGtf, ↓NGft, ↓NGff, ↓PGtt, ↓PGtf, ↓PGft, ↓PGff, ↓BGtt, ↓BGtf, ↓BGft, ↓BGff, ↓CGtt, ↓CGtf, ↓CGft, ↓CGff, ↓IGtt, ↓IGtf, ↓IGft, ↓IGff, ↓PKt, ↓PKf, ↓CDt, ↓CDf, ↓NOTt, ↓NOTf, ↓NK_ptr]
        rw [k3.e]
        try simp only [↓VG_u, ↓UG_u, ↓MG_u, ↓NG_u, ↓PG_u, ↓BG_u, ↓CG_u, ↓IG_u, ↓VGtt, ↓VGtf, ↓VGft, ↓VGff, ↓UGtt, ↓UGtf, ↓UGft, ↓UGff, ↓MGtt, ↓MGtf, ↓MGft, ↓MGff, ↓NGtt, ↓NGtf, ↓NGft, ↓NGff, ↓PGtt, ↓PGtf, ↓PGft, ↓PGff, ↓BGtt, ↓BGtf, ↓BGft, ↓BGff, ↓CGtt, ↓CGtf, ↓CGft, ↓CGff, ↓IGtt, ↓IGtf, ↓IGft, ↓IGff, ↓PKt, ↓PKf, ↓CDt, ↓CDf, ↓NOTt, ↓NOTf, ↓NK_ptr]
        rw [g1.e]
        try simp only [↓VG_u, ↓UG_u, ↓MG_u, ↓NG_u, ↓PG_u, ↓BG_u, ↓CG_u, ↓IG_u, ↓VGtt, ↓VGtf, ↓VGft, ↓VGff, ↓UGtt, ↓UGtf, ↓UGft, ↓UGff, ↓MGtt, ↓MGtf, ↓MGft, ↓MGff, ↓NGtt, ↓NGtf, ↓NGft, ↓NGff, ↓PGtt, ↓PGtf, ↓PGft, ↓PGff, ↓BGtt, ↓BGtf, ↓BGft, ↓BGff, ↓CGtt, ↓CGtf, ↓CGft, ↓CGff, ↓IGtt, ↓IGtf, ↓IGft, ↓IGff, ↓PKt, ↓PKf, ↓CDt, ↓CDf, ↓NOTt, ↓NOTf, ↓NK_ptr]
        by_cases c4 : r.peer = m.frm
        · rw [EQt c4]
          try simp only [↓VG_u, ↓UG_u, ↓MG_u, ↓NG_u, ↓PG_u, ↓BG_u, ↓CG_u, ↓IG_u, ↓VGtt, ↓VGtf, ↓VGft, ↓VGff, ↓UGtt, ↓UGtf, ↓UGft, ↓UGff, ↓MGtt, ↓MGtf, ↓MGft, ↓MGff, ↓NGtt, ↓NGtf, ↓NGft, ↓NGff, ↓PGtt, ↓PGtf, ↓PGft, ↓PGff, ↓BGtt, ↓BGtf, ↓BGft, ↓BGff, ↓CGtt, ↓CGtf, ↓CGft, ↓CGff, ↓IGtt, ↓IGtf, ↓IGft, ↓IGff, ↓PKt, ↓PKf, ↓CDt, ↓CDf, ↓NOTt, ↓NOTf, ↓NK_ptr]
          rw [k4.e]
          try simp only [↓VG_u, ↓UG_u, ↓MG_u, ↓NG_u, ↓PG_u, ↓BG_u, ↓CG_u, ↓IG_u, ↓VGtt, ↓VGtf, ↓VGft, ↓VGff, ↓UGtt, ↓UGtf, ↓UGft, ↓UGff, ↓MGtt, ↓MGtf, ↓MGft, ↓MGff, ↓NGtt, ↓NGtf, ↓NGft, ↓NGff, ↓PGtt, ↓PGtf, ↓PGft, ↓PGff, ↓BGtt, ↓BGtf, ↓BGft, ↓BGff, ↓CGtt, ↓CGtf, ↓CGft, ↓CGff, ↓IGtt, ↓IGtf, ↓IGft, ↓IGff, ↓PKt, ↓PKf, ↓CDt, ↓CDf, ↓NOTt, ↓NOTf, ↓NK_ptr]
          by_cases c3 : r.tag = -1
          · rw [EQt c3]
            try simp only [↓VG_u, ↓UG_u, ↓MG_u, ↓NG_u, ↓PG_u, ↓BG_u, ↓CG_u, ↓IG_u, ↓VGtt, ↓VGtf, ↓VGft, ↓VGff, ↓UGtt, ↓UGtf, ↓UGft, ↓UGff, ↓MGtt, ↓MGtf, ↓MGft, ↓MGff, ↓NGtt, ↓NGtf, ↓NGft, ↓NGff, ↓PGtt, ↓PGtf, ↓PGft, ↓PGff, ↓BGtt, ↓BGtf, ↓BGft, ↓BGff, ↓CGtt, ↓CGtf, ↓CGft, ↓CGff, ↓IGtt, ↓IGtf, ↓IGft, ↓IGff, ↓PKt, ↓PKf, ↓CDt, ↓CDf, ↓NOTt, ↓NOTf, ↓NK_ptr]
            exact fin true (by rw [last, decide_eq_true c4, decide_eq_true c3, Bool.or_true]; rfl)
          · rw [EQf c3]
            try simp only [↓VG_u, ↓UG_u, ↓MG_u, ↓NG_u, ↓PG_u, ↓BG_u, ↓CG_u, ↓IG_u, ↓VGtt, ↓VGtf, ↓VGft, ↓VGff, ↓UGtt, ↓UGtf, ↓UGft, ↓UGff, ↓MGtt, ↓MGtf, ↓MGft, ↓MGff, ↓NGtt, ↓NGtf, ↓NGft, ↓NGff, ↓PGtt, ↓PGtf, ↓PGft, ↓PGff, ↓BGtt, ↓BGtf, ↓BGft, ↓BGff, ↓CGtt, ↓CGtf, ↓CGft, ↓CGff, ↓IGtt, ↓IGtf, ↓IGft, ↓IGff, ↓PKt, ↓PKf, ↓CDt, ↓CDf, ↓NOTt, ↓NOTf, ↓NK_ptr]
            rw [k4.e]
            try simp only [↓VG_u, ↓UG_u, ↓MG_u, ↓NG_u, ↓PG_u, ↓BG_u, ↓CG_u, ↓IG_u, ↓VGtt, ↓VGtf, ↓VGft, ↓VGff, ↓UGtt, ↓UGtf, ↓UGft, ↓UGff, ↓MGtt, ↓MGtf, ↓MGft, ↓MGff, ↓NGtt, ↓NGtf, ↓NGft, ↓NGff, ↓PGtt, ↓PGtf, ↓PGft, ↓PGff, ↓BGtt, ↓BGtf, ↓BGft, ↓BGff, ↓CGtt, ↓CGtf, ↓CGft, ↓CGff, ↓IGtt, ↓IGtf, ↓IGft, ↓IGff, ↓PKt, ↓PKf, ↓CDt, ↓CDf, ↓NOTt, ↓NOTf, ↓NK_ptr]
            rw [g4.e]
            try simp only [↓VG_u, ↓UG_u, ↓MG_u, ↓NG_u, ↓PG_u, ↓BG_u, ↓CG_u, ↓IG_u, ↓VGtt, ↓VGtf, ↓VGft, ↓VGff, ↓UGtt, ↓UGtf, ↓UGft, ↓UGff, ↓MGtt, ↓MGtf, ↓MGft, ↓MGff, ↓NGtt, ↓NGtf, ↓NGft, ↓NGff, ↓PGtt, ↓PGtf, ↓PGft, ↓PGff, ↓BGtt, ↓BGtf, ↓BGft, ↓BGff, ↓CGtt, ↓CGtf, ↓CGft, ↓CGff, ↓IGtt, ↓IGtf, ↓IGft, ↓IGff, ↓PKt, ↓PKf, ↓CDt, ↓CDf, ↓NOTt, ↓NOTf, ↓NK_ptr]
            rw [BK_eql]
            try simp only [↓VG_u, ↓UG_u, ↓MG_u, ↓NG_u, ↓PG_u, ↓BG_u, ↓CG_u, ↓IG_u, ↓VGtt, ↓VGtf, ↓VGft, ↓VGff, ↓UGtt, ↓UGtf, ↓UGft, ↓UGff, ↓MGtt, ↓MGtf, ↓MGft, ↓MGff, ↓NGtt, ↓NGtf, ↓NGft, ↓NGff, ↓PGtt, ↓PGtf, ↓PGft, ↓PGff, ↓BGtt, ↓BGtf, ↓BGft, ↓BGff, ↓CGtt, ↓CGtf, ↓CGft, ↓CGff, ↓IGtt, ↓IGtf, ↓IGft, ↓IGff, ↓PKt, ↓PKf, ↓CDt, ↓CDf, ↓NOTt, ↓NOTf, ↓NK_ptr]
            refine fin _ ?_
            rw [last, decide_eq_true c4, decide_eq_false c3, Bool.or_true]
            rfl
        · rw [EQf c4]
          try simp only [↓VG_u, ↓UG_u, ↓MG_u, ↓NG_u, ↓PG_u, ↓BG_u, ↓CG_u, ↓IG_u, ↓VGtt, ↓VGtf, ↓VGft, ↓VGff, ↓UGtt, ↓UGtf, ↓UGft, ↓UGff, ↓MGtt, ↓MGtf, ↓MGft, ↓MGff, ↓NGtt, ↓NGtf, ↓NGft, ↓NGff, ↓PGtt, ↓PGtf, ↓PGft, ↓PGff, ↓BGtt, ↓BGtf, ↓BGft, ↓BGff, ↓CGtt, ↓CGtf, ↓CGft, ↓CGff, ↓IGtt, ↓IGtf, ↓IGft, ↓IGff, ↓PKt, ↓PKf, ↓CDt, ↓CDf, ↓NOTt, ↓NOTf, ↓NK_ptr]
          exact fin false (by rw [last, decide_eq_false c2, decide_eq_false c4]; rfl)
    · rw [EQf c1]
      try simp only [↓VG_u, ↓UG_u, ↓MG_u, ↓NG_u, ↓PG_u, ↓BG_u, ↓CG_u, ↓IG_u, ↓VGtt, ↓VGtf, ↓VGft, ↓VGff, ↓UGtt, ↓UGtf, ↓UGft, ↓UGff, ↓MGtt, ↓MGtf, ↓MGft, ↓MGff, ↓NGtt, ↓NGtf, ↓NGft, ↓NGff, ↓PGtt, ↓PGtf, ↓PGft, ↓PGff, ↓BGtt, ↓BGtf, ↓BGft, ↓BGff, ↓CGtt, ↓CGtf, ↓CGft, ↓CGff, ↓IGtt, ↓IGtf, ↓IGft, ↓IGff, ↓PKt, ↓PKf, ↓CDt, ↓CDf, ↓NOTt, ↓NOTf, ↓NK_ptr]
      exact fin false (by unfold fitsV; rw [decide_eq_true c0, decide_eq_false c1]; rfl)
  · rw [decide_eq_false c0]
    try simp only [↓VG_u, ↓UG_u, ↓MG_u, ↓NG_u, ↓PG_u, ↓BG_u, ↓CG_u, ↓IG_u, ↓VGtt, ↓VGtf, ↓VGft, ↓VGff, ↓UGtt, ↓UGtf, ↓UGft, ↓UGff, ↓MGtt, ↓MGtf, ↓MGft, ↓MGff, ↓NGtt, ↓NGtf, ↓NGft, ↓NGff, ↓PGtt, ↓PGtf, ↓PGft, ↓PGff, ↓BGtt, ↓BGtf, ↓BGft, ↓BGff, ↓CGtt, ↓CGtf, ↓CGft, ↓CGff, ↓IGtt, ↓IGtf, ↓IGft, ↓IGff, ↓PKt, ↓PKf, ↓CDt, ↓CDf, ↓NOTt, ↓NOTf, ↓NK_ptr]
    exact fin false (by unfold fitsV; rw [decide_eq_false c0]; rfl)
end Go.Proofs.Ytmnkedgmpbcicaa.Que
set_option linter.unusedVariables false
set_option linter.unusedSimpArgs false
set_option maxRecDepth 8000
namespace Go.Proofs.Ytmnkedgmpbcicaa.Que
open Go Go.X Go.RowKit Go.Proofs.Ytmnkedgmpbcicaa.XF Go.Proofs.Ytmnkedgmpbcicaa.XG Go.Proofs.Ytmnkedgmpbcicaa.XK
theorem kept_R2 {w : World} {K : Exit → Sl → World → Prop} {ρ : Sl} {n : Nat} (hn : n ≤ 1000000) (e10 : ρ 10 = .int .i64 n) (hk : ∀ ρ' : Sl, ρ' 10 = .int .i64 (n + 1 : Nat) → ρ' 9 = ρ 9 → ρ' 8 = ρ 8 → ρ' 1 = ρ 1 → ρ' 5 = ρ 5 → K .normal ρ' w) : sx fn_ Try.prog 23 posted_kept_posted_Receive_R2 K ρ w := by
  rw [posted_kept_posted_Receive_R2_eq]; unfold posted_kept_posted_Receive_R2_F
  rw [e10, BK_add, wrap_i (by omega) (by omega)]
  exact hk _ rfl rfl rfl rfl rfl
theorem kept_ok {w : World} {v : Value} {l : List Rc} (h : RcRow w v l) (hl : l.length ≤ 1000000) : Rt Try.prog 46 #[v, .func (.func 47) #[] #[]] w (RowR w (l.filter wt)) := by
  obtain ⟨A, c, hs, _⟩ := reads_cap h
  refine posted_kept_posted_Receive_calls ?_
  unfold posted_kept_posted_Receive_F
  rw [hs, len_sl vRcS, ← hs]
  refine W_loop posted_kept_posted_Receive_L0_ok (fun ρ w' => ∃ (n : Nat) (o : Value), n ≤ l.length ∧ ρ 10 = .int .i64 n ∧ ρ 9 = .int .i64 l.length ∧ ρ 8 = v ∧ ρ 1 = .func (.func 47) #[] #[] ∧ ρ 5 = o ∧ w'.ownsRow w.heap.size tRc 9 o ((l.take n).filter wt).length (((l.take n).filter wt).flatMap Rc.enc) ∧ Mod none_ w w') (fun ρ _ => l.length - (intOf (ρ 10)).toNat)
    ⟨0, .slice none 0 0, Nat.zero_le _, rfl, rfl, rfl, rfl, rfl, World.ownsRow_nil _ _ _ _, Mod.refl _ _⟩ ?_
  rintro ρ w1 ⟨n, o, hn, e10, e9, e8, e1, e5, hO, hm⟩
  rw [posted_kept_posted_Receive_L0_eq]; unfold posted_kept_posted_Receive_L0_F
  rw [e10, e9, e8, e1, e5, BK_lss]
  have hsz := hm.size
  by_cases hlt : n < l.length
  · rw [decide_eq_true (by omega)]
    refine condT ?_
    have hx : l[n]? = some l[n] := List.getElem?_eq_getElem hlt
    have etk : l.take (n + 1) = l.take n ++ [l[n]] := by rw [List.take_add_one, hx]; rfl
    generalize l[n] = x at *
    have hlen : ((l.take n).filter wt).length ≤ n := Nat.le_trans (List.length_filter_le _ _) (by rw [List.length_take]; omega)
    refine ixRc (h.calm hm) hx rfl fun y => ?_
    refine rcSlot_k fun w2 hb2 hm2 hz2 => ?_
    refine ldS rfl Try.underlying24 rfl (by rw [iRc]; rfl) hb2 ?_
    refine CK_st Try.func47 rfl rfl (waits_ok w2 x) ?_
    rintro _ w3 ⟨rfl, hm3⟩
    have hm13 := hm2.trans hm3
    refine caseC (fun q => ?_) (fun q => ?_)
    · refine ldS rfl Try.underlying24 rfl (by rw [iRc]; rfl) (hm3.blk hb2 id) ?_
      refine appR (owns_mod hO hm13 fun _ _ => id) (by have := hm13.size; omega) (by omega) fun _ o' w4 hO4 hm4 => ?_
      have ef : (l.take (n + 1)).filter wt = (l.take n).filter wt ++ [x] := by rw [etk, List.filter_append, List.filter_cons_of_pos q, List.filter_nil]
      rw [← ef] at hO4
      refine kept_R2 (by omega) (by first | exact e10 | rfl) fun ρ2 q10 q9 q8 q1 q5 => ⟨⟨n + 1, o', hlt, q10, q9.trans (by first | exact e9 | rfl), q8.trans (by first | exact e8 | rfl), q1.trans (by first | exact e1 | rfl), q5, hO4, (hm.trans hm13).then hm4 fun i hi z => by omega⟩, ?_⟩
      rw [q10]
      simp only [intOf]; omega
    · have ef : (l.take (n + 1)).filter wt = (l.take n).filter wt := by rw [etk, List.filter_append, List.filter_cons_of_neg (by rw [q]; decide), List.filter_nil, List.append_nil]
      rw [← ef] at hO
      refine kept_R2 (by omega) (by first | exact e10 | rfl) fun ρ2 q10 q9 q8 q1 q5 => ⟨⟨n + 1, o, hlt, q10, q9.trans (by first | exact e9 | rfl), q8.trans (by first | exact e8 | rfl), q1.trans (by first | exact e1 | rfl), q5.trans (by first | exact e5 | rfl), owns_mod hO hm13 fun _ _ => id, hm.trans hm13⟩, ?_⟩
      rw [q10]
      simp only [intOf]; omega
  · obtain rfl : n = l.length := by omega
    rw [decide_eq_false (by omega)]
    refine condF ?_
    rw [sq_x, bk_x, sq_n, posted_kept_posted_Receive_R1_eq]; unfold posted_kept_posted_Receive_R1_F
    rw [List.take_length] at hO
    have key : ∀ ρ0 : Sl, ρ0 5 = o → retK Try.prog [ResultVar.tmp 4] (RowR w (l.filter wt)) .ret (up (up ρ0 22 (ρ0 5)) 4 (ρ0 5)) w1 := by
      intro ρ0 q
      show RowR w (l.filter wt) (ρ0 5) w1
      rw [q]
      exact ⟨hO, hm⟩
    exact key _ (by first | exact e5 | rfl)
theorem IndexFuncRc_ok {w : World} {s : Value} {l : List Rc} {p : Rc → Bool} {fv : Value} (h : RcRow w s l) (hlen : l.length ≤ 1099511627776)
    (hf : ∀ a ∈ l, ∀ w', Mod none_ w w' → ∀ K : Value → World → Prop, (∀ w'', Mod none_ w' w'' → K (.bool (p a)) w'') → CK Try.prog fv [.agg a.enc.toArray] w' K) :
    Rt Try.prog 66 #[s, fv] w fun v w' => v = .int .i64 (idxR p l) ∧ Mod none_ w w' := by
  obtain ⟨A, c, hs, _⟩ := reads_cap h
  refine slices_IndexFunc_posted_Receive_posted_Receive_calls ?_
  unfold slices_IndexFunc_posted_Receive_posted_Receive_F
  rw [hs, len_sl vRcS]
  refine W_loop slices_IndexFunc_posted_Receive_posted_Receive_L0_ok (fun ρ w' => ∃ n : Nat, n ≤ l.length ∧ ρ 8 = .int .i64 n ∧ ρ 7 = .int .i64 l.length ∧ ρ 0 = .slice A l.length c ∧ ρ 1 = fv ∧ (∀ a ∈ l.take n, p a = false) ∧ Mod none_ w w') (fun ρ _ => l.length - (intOf (ρ 8)).toNat)
    ⟨0, Nat.zero_le _, rfl, rfl, rfl, rfl, by simp, Mod.refl _ _⟩ ?_
  rintro ρ w1 ⟨n, hn, h8, h7, h0, h1, hno, hm⟩
  rw [slices_IndexFunc_posted_Receive_posted_Receive_L0_eq]
  unfold slices_IndexFunc_posted_Receive_posted_Receive_L0_F
  rw [h8, h7, h0, h1, BK_lss]
  by_cases hlt : n < l.length
  · rw [decide_eq_true (by omega)]
    refine condT ?_
    have hx : l[n]? = some l[n] := List.getElem?_eq_getElem hlt
    have hmem : l[n] ∈ l := List.getElem_mem hlt
    have h2 := h.calm hm
    rw [hs] at h2
    refine ixRc h2 hx rfl fun y => ?_
    refine hf _ hmem w1 hm _ fun w2 hm2 => ?_
    refine caseC (fun hp => ?_) (fun hp => ?_)
    · refine ⟨?_, hm.trans hm2⟩
      unfold idxR
      rw [show l.findIdx? p = some n from List.findIdx?_eq_some_iff_getElem.2 ⟨hlt, hp, fun j hj => by
        have := hno l[j] (List.mem_take_iff_getElem.2 ⟨j, by omega, rfl⟩)
        simp [this]⟩]
      rfl
    · rw [BK_add, wrap_i (by omega) (by omega)]
      refine ⟨⟨n + 1, hlt, rfl, h7, h0, h1, ?_, hm.trans hm2⟩, ?_⟩
      · rw [List.take_add_one, hx, Option.toList_some]
        intro a q
        rcases List.mem_append.1 q with q | q
        · exact hno a q
        · rw [List.mem_singleton.1 q]; exact hp
      · simp only [sq_n, sq_x, sq_r, bk_n, bk_r, bk_x, rt_r, rt_n, rs_0, rs_t, pk_1, pk_2, up_at, reduceIte, Nat.reduceEqDiff, intOf]; omega
  · obtain rfl : n = l.length := by omega
    rw [decide_eq_false (by omega)]
    refine condF ?_
    rw [sq_x, bk_x, sq_n, slices_IndexFunc_posted_Receive_posted_Receive_R1_eq]
    unfold slices_IndexFunc_posted_Receive_posted_Receive_R1_F
    refine ⟨?_, hm⟩
    rw [List.take_length] at hno
    unfold idxR
    rw [List.findIdx?_eq_none_iff.2 hno]
    rfl
theorem ContainsFuncRc_ok {w : World} {s : Value} {l : List Rc} {p : Rc → Bool} {fv : Value} (h : RcRow w s l) (hlen : l.length ≤ 1099511627776)
    (hf : ∀ a ∈ l, ∀ w', Mod none_ w w' → ∀ K : Value → World → Prop, (∀ w'', Mod none_ w' w'' → K (.bool (p a)) w'') → CK Try.prog fv [.agg a.enc.toArray] w' K) :
    Rt Try.prog 64 #[s, fv] w fun v w' => v = .bool (l.any p) ∧ Mod none_ w w' := by
  refine slices_ContainsFunc_posted_Receive_posted_Receive_calls ?_
  unfold slices_ContainsFunc_posted_Receive_posted_Receive_F
  refine CK_st Try.func66 rfl rfl (IndexFuncRc_ok h hlen hf) ?_
  rintro _ w1 ⟨rfl, hm⟩
  rw [BK_geq]
  refine ⟨?_, hm⟩
  congr 1
  unfold idxR
  cases hq : l.findIdx? p with
  | none =>
    rw [List.findIdx?_eq_none_iff] at hq
    rw [show l.any p = false by simpa using hq]
    rfl
  | some j =>
    rw [List.findIdx?_eq_some_iff_getElem] at hq
    obtain ⟨hj, hp, _⟩ := hq
    rw [show l.any p = true from List.any_eq_true.2 ⟨l[j], List.getElem_mem hj, hp⟩]
    simp
end Go.Proofs.Ytmnkedgmpbcicaa.Que
set_option linter.unusedVariables false
set_option linter.unusedSimpArgs false
set_option maxRecDepth 8000
namespace Go.X
open Go Go.RowKit
abbrev Rks := Nat → List Rc
def rowP (R : Rks) (rk : Int) : List Rc := if 0 ≤ rk ∧ rk ≤ 63 then R rk.toNat else []
def PF (p : Nat) (vs : List Value) (b : Nat) : Prop := b = p ∨ ∃ v ∈ vs, sb v b
def badR (r : Rc) (l : List Rc) : Bool := !(decide (0 ≤ r.rank) && decide (r.rank ≤ 63)) || !(decide (-1 ≤ r.peer) && decide (r.peer ≤ 63)) || !(decide (-1 ≤ r.tag) && decide (r.tag ≤ 32767)) || decide (r.req < -1) || decide (r.call < 0) || (match l.getLast? with | none => false | some x => decide (r.call ≤ x.call))
def Rc.new (r : Rc) : Rc := { r with done := false, frm := 0, seq := 0 }
def putR (R : Rks) (k : Nat) (l : List Rc) : Rks := fun i => if i = k then l else R i
def postV (R : Rks) (r : Rc) : Rks × Int := if badR r (rowP R r.rank) then (R, 2) else (putR R r.rank.toNat (rowP R r.rank ++ [r.new]), 0)
end Go.X
namespace Go.Proofs.Ytmnkedgmpbcicaa.Que
open Go Go.X Go.RowKit Go.Proofs.Ytmnkedgmpbcicaa.XF Go.Proofs.Ytmnkedgmpbcicaa.XG Go.Proofs.Ytmnkedgmpbcicaa.XK
abbrev tPd : TypeId := 61
abbrev tArr : TypeId := 59
theorem uPd : Try.prog.underlying 28 = some (.pointer tPd) := by kernel_rfl
structure PAt (w : World) (p : Nat) (R : Rks) (vs : List Value) : Prop where
  blk : w.heap[p]? = some (.cells (.bool true :: vs).toArray tPd (0, 0))
  len : vs.length = 64
  rows : ∀ (i : Nat) v, vs[i]? = some v → w.ownsRow 0 tRc 9 v (R i).length ((R i).flatMap Rc.enc)
  ne : ∀ v ∈ vs, ¬ sb v p
  dist : ∀ (i j : Nat) v u, vs[i]? = some v → vs[j]? = some u → i ≠ j → ∀ g, sb v g → ¬ sb u g
structure PFr (p : Nat) (w : World) (vs : List Value) (w' : World) (vs' : List Value) : Prop where
  mod : Mod (PF p vs) w w'
  f : ∀ b, PF p vs' b → PF p vs b ∨ w.heap.size ≤ b
theorem PFr.calm {p : Nat} {w w' : World} {vs : List Value} (h : Mod none_ w w') : PFr p w vs w' vs := ⟨h.mono fun _ _ q => q.elim, fun _ q => .inl q⟩
theorem PFr.trans {p : Nat} {w w1 w2 : World} {V V1 V2 : List Value} (h : PFr p w V w1 V1) (k : PFr p w1 V1 w2 V2) : PFr p w V w2 V2 := by
  have hs := h.mod.size
  refine ⟨h.mod.then k.mod fun i hi q => ?_, fun b q => ?_⟩
  · rcases h.f i q with z | z
    · exact z
    · omega
  · rcases k.f b q with z | z
    · exact h.f b z
    · right; omega
theorem PAt.mod {w w' : World} {p : Nat} {R : Rks} {vs : List Value} {S : Nat → Prop} (h : PAt w p R vs) (hm : Mod S w w') (hS : ∀ b, PF p vs b → ¬ S b) : PAt w' p R vs :=
  ⟨hm.blk h.blk (hS _ (.inl rfl)), h.len, fun i v hv => owns_mod (h.rows i v hv) hm fun k q => hS k (.inr ⟨v, List.mem_of_getElem? hv, q⟩), h.ne, h.dist⟩
theorem PAt.calm {w w' : World} {p : Nat} {R : Rks} {vs : List Value} (h : PAt w p R vs) (hm : Mod none_ w w') : PAt w' p R vs := h.mod hm fun _ _ q => q
theorem PAt.old {w : World} {p : Nat} {R : Rks} {vs : List Value} (h : PAt w p R vs) : ∀ b, PF p vs b → b < w.heap.size := by
  rintro b (rfl | ⟨v, hv, hb⟩)
  · exact X.blk_lt h.blk
  · obtain ⟨i, hi⟩ := List.getElem?_of_mem hv
    exact (owns_bd (h.rows i v hi) b hb).2
section
variable {w : World} {p : Nat} {R : Rks} {vs : List Value}
theorem f_made (h : PAt w p R vs) : FO Try.prog w tPd 0 0 ⟨p, 0, none⟩ 4 (.bool true) := FO.blk h.blk (by kernel_rfl) vB rfl rfl
theorem run_arr {b o : Nat} {k : IntKind} {i : Int} (h0 : 0 ≤ i) (h1 : i ≤ 63) (w : World) : (Instr.indexAt tArr (.pointer (some ⟨b, o, none⟩)) (.int k i)).run Try.prog w = .ok (.pointer (some ⟨b, o + i.toNat, none⟩)) w := by
  rw [run_indexAt_array w tArr _ k i (by kernel_rfl), if_pos ⟨h0, by rw [show Try.prog.arrayLen tArr = 64 by kernel_rfl]; omega⟩, show Try.prog.elem tArr = tRcS by kernel_rfl, Try.sizeOf41]
  simp [add_pl]
theorem ixArr {b o : Nat} {k : IntKind} {i : Int} (h0 : 0 ≤ i) (h1 : i ≤ 63) {K : Value → World → Prop} : VK Try.prog (Instr.indexAt tArr (.pointer (some ⟨b, o, none⟩)) (.int k i)) w K = K (.pointer (some ⟨b, o + i.toNat, none⟩)) w := VK_eq_of (run_arr h0 h1 w)
theorem inP_ok (n a b : Int) (w : World) : Rt Try.prog 41 #[.int .i64 n, .int .i64 a, .int .i64 b] w fun v w' => v = .bool (decide (a ≤ n) && decide (n ≤ b)) ∧ w' = w := by
  refine posted_in_calls ?_
  unfold posted_in_F
  rw [BK_geq]
  cases hz : decide (a ≤ n) with
  | true =>
    try simp only [↓VG_u, ↓UG_u, ↓MG_u, ↓NG_u, ↓PG_u, ↓BG_u, ↓CG_u, ↓IG_u, ↓VGtt, ↓VGtf, ↓VGft, ↓VGff, ↓UGtt, ↓UGtf, ↓UGft, ↓UGff, ↓MGtt, ↓MGtf, ↓MGft, ↓MGff, ↓NGtt, ↓NGtf, ↓NGft, ↓NGff, ↓PGtt, ↓PGtf, ↓PGft, ↓PGff, ↓BGtt, ↓BGtf, ↓BGft, ↓BGff, ↓CGtt, ↓CGtf, ↓CGft, ↓CGff, ↓IGtt, ↓IGtf, ↓IGft, ↓IGff, ↓PKt, ↓PKf, ↓CDt, ↓CDf, ↓NOTt, ↓NOTf, ↓NK_ptr]
    rw [BK_leq]
    try simp only [↓VG_u, ↓UG_u, ↓MG_u, ↓NG_u, ↓PG_u, ↓BG_u, ↓CG_u, ↓IG_u, ↓VGtt, ↓VGtf, ↓VGft, ↓VGff, ↓UGtt, ↓UGtf, ↓UGft, ↓UGff, ↓MGtt, ↓MGtf, ↓MGft, ↓MGff, ↓NGtt, ↓NGtf, ↓NGft, ↓NGff, ↓PGtt, ↓PGtf, ↓PGft, ↓PGff, ↓BGtt, ↓BGtf, ↓BGft, ↓BGff, ↓CGtt, ↓CGtf, ↓CGft, ↓CGff, ↓IGtt, ↓IGtf, ↓IGft, ↓IGff, ↓PKt, ↓PKf, ↓CDt, ↓CDf, ↓NOTt, ↓NOTf, ↓NK_ptr]
    exact ⟨by first | rfl | simp, by trivial⟩
  | false =>
    try simp only [↓VG_u, ↓UG_u, ↓MG_u, ↓NG_u, ↓PG_u, ↓BG_u, ↓CG_u, ↓IG_u, ↓VGtt, ↓VGtf, ↓VGft, ↓VGff, ↓UGtt, ↓UGtf, ↓UGft, ↓UGff, ↓MGtt, ↓MGtf, ↓MGft, ↓MGff, ↓NGtt, ↓NGtf, ↓NGft, ↓NGff, ↓PGtt, ↓PGtf, ↓PGft, ↓PGff, ↓BGtt, ↓BGtf, ↓BGft, ↓BGff, ↓CGtt, ↓CGtf, ↓CGft, ↓CGff, ↓IGtt, ↓IGtf, ↓IGft, ↓IGff, ↓PKt, ↓PKf, ↓CDt, ↓CDf, ↓NOTt, ↓NOTf, ↓NK_ptr]
    exact ⟨by first | trivial | rfl | simp, by trivial⟩
theorem PAt.at (h : PAt w p R vs) {rk : Int} (h0 : 0 ≤ rk) (h1 : rk ≤ 63) : ∃ v, vs[rk.toNat]? = some v ∧ w.cell? ⟨p, 1 + rk.toNat, none⟩ = some v ∧ RcRow w v (rowP R rk) := by
  have hl := h.len
  have hx : vs[rk.toNat]? = some vs[rk.toNat] := List.getElem?_eq_getElem (by omega)
  refine ⟨_, hx, ?_, ?_⟩
  · rw [cell_blk h.blk]
    rw [show (1 + rk.toNat) = rk.toNat + 1 by omega]
    simp
  · unfold rowP
    rw [if_pos ⟨h0, h1⟩]
    exact reads_of_owns (h.rows _ _ hx)
theorem of_ok' (h : PAt w p R vs) (rk : Int) : Rt Try.prog 40 #[.pointer (some ⟨p, 0, none⟩), .int .i64 rk] w fun v w' => w' = w ∧ RcRow w v (rowP R rk) ∧ (0 ≤ rk ∧ rk ≤ 63 → vs[rk.toNat]? = some v) := by
  refine posted_Posted_of_calls ?_
  unfold posted_Posted_of_F
  rw [BK_eqlP uPd]
  simp only [Option.isNone_some, ↓VG_u, ↓UG_u, ↓MG_u, ↓NG_u, ↓PG_u, ↓BG_u, ↓CG_u, ↓IG_u, ↓VGtt, ↓VGtf, ↓VGft, ↓VGff, ↓UGtt, ↓UGtf, ↓UGft, ↓UGff, ↓MGtt, ↓MGtf, ↓MGft, ↓MGff, ↓NGtt, ↓NGtf, ↓NGft, ↓NGff, ↓PGtt, ↓PGtf, ↓PGft, ↓PGff, ↓BGtt, ↓BGtf, ↓BGft, ↓BGff, ↓CGtt, ↓CGtf, ↓CGft, ↓CGff, ↓IGtt, ↓IGtf, ↓IGft, ↓IGff, ↓PKt, ↓PKf, ↓CDt, ↓CDf, ↓NOTt, ↓NOTf, ↓NK_ptr]
  rw [(f_made h).e]
  try simp only [↓VG_u, ↓UG_u, ↓MG_u, ↓NG_u, ↓PG_u, ↓BG_u, ↓CG_u, ↓IG_u, ↓VGtt, ↓VGtf, ↓VGft, ↓VGff, ↓UGtt, ↓UGtf, ↓UGft, ↓UGff, ↓MGtt, ↓MGtf, ↓MGft, ↓MGff, ↓NGtt, ↓NGtf, ↓NGft, ↓NGff, ↓PGtt, ↓PGtf, ↓PGft, ↓PGff, ↓BGtt, ↓BGtf, ↓BGft, ↓BGff, ↓CGtt, ↓CGtf, ↓CGft, ↓CGff, ↓IGtt, ↓IGtf, ↓IGft, ↓IGff, ↓PKt, ↓PKf, ↓CDt, ↓CDf, ↓NOTt, ↓NOTf, ↓NK_ptr]
  refine CK_st Try.func41 rfl rfl (inP_ok rk 0 63 w) ?_
  rintro _ w1 ⟨rfl, rfl⟩
  by_cases hr : 0 ≤ rk ∧ rk ≤ 63
  · rw [decide_eq_true hr.1, decide_eq_true hr.2]
    obtain ⟨v, hv, hc, hrow⟩ := h.at hr.1 hr.2
    try simp only [Bool.true_and, Bool.and_true, ↓VG_u, ↓UG_u, ↓MG_u, ↓NG_u, ↓PG_u, ↓BG_u, ↓CG_u, ↓IG_u, ↓VGtt, ↓VGtf, ↓VGft, ↓VGff, ↓UGtt, ↓UGtf, ↓UGft, ↓UGff, ↓MGtt, ↓MGtf, ↓MGft, ↓MGff, ↓NGtt, ↓NGtf, ↓NGft, ↓NGff, ↓PGtt, ↓PGtf, ↓PGft, ↓PGff, ↓BGtt, ↓BGtf, ↓BGft, ↓BGff, ↓CGtt, ↓CGtf, ↓CGft, ↓CGff, ↓IGtt, ↓IGtf, ↓IGft, ↓IGff, ↓PKt, ↓PKf, ↓CDt, ↓CDf, ↓NOTt, ↓NOTf, ↓NK_ptr]
    rw [fo (show fieldOff Try.prog tPd 1 = some 1 by kernel_rfl), add_pl, ixArr hr.1 hr.2]
    refine ld1 vRcS rfl (by rw [Nat.zero_add]; exact hc) ?_
    exact ⟨rfl, hrow, fun _ => hv⟩
  · rw [show (decide (0 ≤ rk) && decide (rk ≤ 63)) = false by
      rw [Bool.and_eq_false_iff]; simp only [decide_eq_false_iff_not]; omega]
    try simp only [↓VG_u, ↓UG_u, ↓MG_u, ↓NG_u, ↓PG_u, ↓BG_u, ↓CG_u, ↓IG_u, ↓VGtt, ↓VGtf, ↓VGft, ↓VGff, ↓UGtt, ↓UGtf, ↓UGft, ↓UGff, ↓MGtt, ↓MGtf, ↓MGft, ↓MGff, ↓NGtt, ↓NGtf, ↓NGft, ↓NGff, ↓PGtt, ↓PGtf, ↓PGft, ↓PGff, ↓BGtt, ↓BGtf, ↓BGft, ↓BGff, ↓CGtt, ↓CGtf, ↓CGft, ↓CGff, ↓IGtt, ↓IGtf, ↓IGft, ↓IGff, ↓PKt, ↓PKf, ↓CDt, ↓CDf, ↓NOTt, ↓NOTf, ↓NK_ptr]
    refine ⟨by trivial, ?_, fun z => absurd z hr⟩
    unfold rowP
    rw [if_neg hr]
    exact RcRow.nil _
theorem New_ok' (w : World) : Rt Try.prog 24 #[] w fun v w' => ∃ p vs, v = .pointer (some ⟨p, 0, none⟩) ∧ PAt w' p (fun _ => []) vs ∧ (∀ b, PF p vs b → w.heap.size ≤ b) ∧ Mod none_ w w' := by
  refine posted_New_calls ?_
  unfold posted_New_F
  rw [build_ok (cs := (.bool true :: List.replicate 64 (.slice none 0 0)).toArray) (by kernel_rfl)]
  refine box_k (cs := (.bool true :: List.replicate 64 (.slice none 0 0)).toArray) rfl fun w1 hb1 hm1 hz1 => ?_
  have hall : ∀ v ∈ List.replicate 64 (Value.slice none 0 0), v = .slice none 0 0 := fun v hv => (List.mem_replicate.1 hv).2
  refine ⟨_, List.replicate 64 (.slice none 0 0), rfl, ⟨hb1, List.length_replicate .., fun i v hv => ?_, fun v hv z => ?_, fun i j v u hv hu _ g z => ?_⟩, ?_, hm1⟩
  · rw [hall v (List.mem_of_getElem? hv)]
    exact World.ownsRow_nil _ _ _ _
  · rw [hall v hv] at z; cases z
  · rw [hall v (List.mem_of_getElem? hv)] at z; cases z
  · rintro b (rfl | ⟨v, hv, hb⟩)
    · exact Nat.le_refl _
    · rw [hall v hv] at hb; cases hb
end
end Go.Proofs.Ytmnkedgmpbcicaa.Que
set_option linter.unusedVariables false
set_option linter.unusedSimpArgs false
set_option maxRecDepth 8000
namespace Go.Proofs.Ytmnkedgmpbcicaa.Que
open Go Go.X Go.RowKit Go.Proofs.Ytmnkedgmpbcicaa.XF Go.Proofs.Ytmnkedgmpbcicaa.XG Go.Proofs.Ytmnkedgmpbcicaa.XK
theorem up_lo {ρ : Sl} {d : Nat} {v : Value} {k n : Nat} (hk : k < n) (hd : n ≤ d) : up ρ d v k = ρ k := by rw [up_at, if_neg (by omega)]
theorem Qnot {C : World → Prop} {b : Bool} {K : Value → Prop} (hk : K (.bool (!b))) : QK Try.prog C (do pure (Next.value (← Op.unary UnOp.not (.bool b)))) K := QV_of (fun w _ => rfl) hk
section
variable {w : World} {p : Nat} {R : Rks} {vs : List Value}
theorem post_R0 {b3 : Nat} {r : Rc} {l : List Rc} {v : Value} {K : Exit → Sl → World → Prop} {ρ : Sl} (hb : w.heap[b3]? = some (.cells r.enc.toArray tRc (0, 0))) (hl : RcRow w v l) (hlen : l.length ≤ 1000000) (e3 : ρ 3 = .pointer (some ⟨b3, 0, none⟩)) (e5 : ρ 5 = v)
    (hk : ∀ (ρ' : Sl) (w' : World), ρ' 61 = .bool (badR r l) → (∀ k, k < 19 → ρ' k = ρ k) → Mod none_ w w' → K .normal ρ' w') : W fn_ Try.prog 75 posted_Posted_Post_R0 K ρ w := by
  refine posted_Posted_Post_R0_quiet (D := []) (fun w' => Mod none_ w w') ((Mod.refl _ w).drawn _) ?_
  unfold posted_Posted_Post_R0_Q
  rw [e3, e5]
  have hc : ∀ (k : Nat) (u : Value), r.enc.toArray[k]? = some u → ∀ w', Mod none_ w w' → w'.cell? (Addr.add ⟨b3, 0, none⟩ k) = some u := fun k u hu w' hm => by
    rw [add_pl, Nat.zero_add, cell_blk (hm.blk hb id)]; exact hu
  have hl' := hl
  have fin : ∀ (ρ' : Sl) (b : Bool), badR r l = b → ρ' 61 = .bool b → (∀ k, k < 19 → ρ' k = ρ k) → ∀ w', Mod none_ w w' → K .normal ρ' w' := fun ρ' b hb h61 hlo w' hm => hk ρ' w' (by rw [h61, hb]) hlo hm
  have hin : ∀ (n a b : Int) (K : Value → Prop), K (.bool (decide (a ≤ n) && decide (n ≤ b))) → QK Try.prog (fun w' => Mod none_ w w') (do let d ← Deferred.ofValue (.func (.func 41) #[] #[]) [.int .i64 n, .int .i64 a, .int .i64 b].toArray; invoke d.target d.args) K := fun n a b K hK =>
    QC_rt Try.func41 rfl rfl (fun w' _ => inP_ok n a b w') (fun w' u w'' hw h => ⟨h.1, by rw [h.2]; exact hw⟩) hK
  refine Qfo (show fieldOff Try.prog tRc 1 = some 1 by kernel_rfl) ?_
  refine Qld vI rfl (hc 1 (.int .i64 r.rank) rfl) ?_
  refine hin _ _ _ _ ?_
  refine Qnot ?_
  cases c1 : (decide (0 ≤ r.rank) && decide (r.rank ≤ 63)) with
  | false =>
    rw [Bool.not_false]
    repeat (first | rw [QG_b, if_neg (by decide)] | rw [QG_u] | (refine QP_of ?_; rw [if_pos rfl]))
    exact fin _ true (by unfold badR; rw [c1]; rfl) rfl (fun k hk => by repeat rw [up_lo hk (by decide)])
  | true =>
    rw [Bool.not_true, QG_b, if_pos rfl]
    refine Qfo (show fieldOff Try.prog tRc 3 = some 3 by kernel_rfl) ?_
    rw [QG_b, if_pos rfl]
    refine Qld vI rfl (hc 3 (.int .i64 r.peer) rfl) ?_
    rw [QG_b, if_pos rfl]
    refine hin _ _ _ _ ?_
    rw [QG_b, if_pos rfl]
    refine Qnot ?_
    refine QP_of ?_
    rw [if_neg (by decide)]
    cases c2 : (decide (-1 ≤ r.peer) && decide (r.peer ≤ 63)) with
    | false =>
      rw [Bool.not_false]
      repeat (first | rw [QG_b, if_neg (by decide)] | rw [QG_u] | (refine QP_of ?_; rw [if_pos rfl]))
      exact fin _ true (by unfold badR; rw [c1, c2]; rfl) rfl (fun k hk => by repeat rw [up_lo hk (by decide)])
    | true =>
      rw [Bool.not_true, QG_b, if_pos rfl]
      refine Qfo (show fieldOff Try.prog tRc 4 = some 4 by kernel_rfl) ?_
      rw [QG_b, if_pos rfl]
      refine Qld vI rfl (hc 4 (.int .i64 r.tag) rfl) ?_
      rw [QG_b, if_pos rfl]
      refine hin _ _ _ _ ?_
      rw [QG_b, if_pos rfl]
      refine Qnot ?_
      refine QP_of ?_
      rw [if_neg (by decide)]
      cases c3 : (decide (-1 ≤ r.tag) && decide (r.tag ≤ 32767)) with
      | false =>
        rw [Bool.not_false]
        repeat (first | rw [QG_b, if_neg (by decide)] | rw [QG_u] | (refine QP_of ?_; rw [if_pos rfl]))
        exact fin _ true (by unfold badR; rw [c1, c2, c3]; rfl) rfl (fun k hk => by repeat rw [up_lo hk (by decide)])
      | true =>
        rw [Bool.not_true, QG_b, if_pos rfl]
        refine Qfo (show fieldOff Try.prog tRc 5 = some 5 by kernel_rfl) ?_
        rw [QG_b, if_pos rfl]
        refine Qld vI rfl (hc 5 (.int .i64 r.req) rfl) ?_
        rw [QG_b, if_pos rfl]
        refine Qlss ?_
        refine QP_of ?_
        rw [if_neg (by decide)]
        cases c4 : decide (r.req < -1) with
        | true =>
          repeat (first | rw [QG_b, if_neg (by decide)] | rw [QG_u] | (refine QP_of ?_; rw [if_pos rfl]))
          exact fin _ true (by unfold badR; rw [c1, c2, c3, c4]; rfl) rfl (fun k hk => by repeat rw [up_lo hk (by decide)])
        | false =>
          rw [QG_b, if_pos rfl]
          refine Qfo (show fieldOff Try.prog tRc 2 = some 2 by kernel_rfl) ?_
          rw [QG_b, if_pos rfl]
          refine Qld vI rfl (hc 2 (.int .i64 r.call) rfl) ?_
          rw [QG_b, if_pos rfl]
          refine Qlss ?_
          refine QP_of ?_
          rw [if_neg (by decide)]
          cases c5 : decide (r.call < 0) with
          | true =>
            repeat (first | rw [QG_b, if_neg (by decide)] | rw [QG_u] | (refine QP_of ?_; rw [if_pos rfl]))
            exact fin _ true (by unfold badR; rw [c1, c2, c3, c4, c5]; rfl) rfl (fun k hk => by repeat rw [up_lo hk (by decide)])
          | false =>
            obtain ⟨A, c, es, _⟩ := reads_cap hl
            rw [QG_b, if_pos rfl]
            refine QM ?_
            rw [QG_b, if_pos rfl, es]
            refine QI_len vRcS _ _ _ _ ?_
            rw [QG_b, if_pos rfl]
            refine Qgtr ?_
            rw [QG_b, if_pos rfl]
            refine QM ?_
            cases hlast : l.getLast? with
            | none =>
              rw [List.getLast?_eq_none_iff] at hlast
              subst hlast
              rw [show decide ((0 : Int) < (([] : List Rc).length : Nat)) = false from rfl]
              repeat rw [QG_b, if_neg (by decide)]
              repeat rw [QG_u]
              rw [QG_b, if_pos rfl]
              refine QP_of ?_
              rw [if_neg (by decide)]
              refine QP_of ?_
              rw [if_neg (by decide)]
              exact fin _ false (by unfold badR; rw [c1, c2, c3, c4, c5]; rfl) rfl (fun k hk => by repeat rw [up_lo hk (by decide)])
            | some x =>
              have hne : 0 < l.length := by
                cases l with
                | nil => cases hlast
                | cons a l => simp
              rw [show decide ((0 : Int) < (l.length : Nat)) = true from decide_eq_true (by omega)]
              have hxl : l[l.length - 1]? = some x := by rw [← List.getLast?_eq_getElem?]; exact hlast
              have hcell : ∃ a, A = some a ∧ ∀ w', Mod none_ w w' → w'.cell? (a.add ((l.length - 1) * (8 + 1) + 2)) = some (.int .i64 x.call) := by
                have hget : (l.flatMap Rc.enc)[(l.length - 1) * (8 + 1) + 2]? = some (.int .i64 x.call) := by
                  rw [fl_get (k := 8 + 1) Rc.enc_len hxl (by decide)]; rfl
                obtain ⟨_, A', c', es', _, hr⟩ := hl
                rw [es] at es'
                cases es'
                obtain ⟨a, ha, _⟩ := hr _ _ hget
                refine ⟨a, ha, fun w' hm => ?_⟩
                obtain ⟨_, A2, c2, es2, _, hr2⟩ := RcRow.calm (l := l) (s := v) hl' hm
                rw [es] at es2
                cases es2
                obtain ⟨a2, ha2, hc2⟩ := hr2 _ _ hget
                rw [ha] at ha2
                cases ha2
                exact hc2
              obtain ⟨a, rfl, hcl⟩ := hcell
              rw [QG_b, if_pos rfl]
              refine Qfo (show fieldOff Try.prog tRc 2 = some 2 by kernel_rfl) ?_
              rw [QG_b, if_pos rfl]
              refine Qld vI rfl (hc 2 (.int .i64 r.call) rfl) ?_
              rw [QG_b, if_pos rfl]
              refine QM ?_
              rw [QG_b, if_pos rfl]
              refine QM ?_
              rw [QG_b, if_pos rfl]
              refine QI_len vRcS _ _ _ _ ?_
              rw [QG_b, if_pos rfl]
              refine Qsub ?_
              rw [wrap_i (by omega) (by omega), QG_b, if_pos rfl]
              refine QV_of (fun w _ => run_ixa vRcS cRc (by omega) (by omega) w) ?_
              rw [QG_b, if_pos rfl]
              refine Qfo (show fieldOff Try.prog tRc 2 = some 2 by kernel_rfl) ?_
              rw [QG_b, if_pos rfl]
              refine Qld vI rfl (v := .int .i64 x.call) (fun w' hm => ?_) ?_
              · have := hcl w' hm
                rw [show ((l.length : Int) - 1).toNat = l.length - 1 by omega]
                rw [add_add]
                exact this
              rw [QG_b, if_pos rfl]
              refine Qleq ?_
              rw [QG_b, if_pos rfl]
              refine QP_of ?_
              rw [if_pos rfl]
              refine QP_of ?_
              rw [if_neg (by decide)]
              exact fin _ (decide (r.call ≤ x.call)) (by unfold badR; rw [c1, c2, c3, c4, c5, hlast]; rfl) rfl (fun k hk => by repeat rw [up_lo hk (by decide)])
theorem post_R2 {b3 : Nat} {r : Rc} {v : Value} {rt : Value → World → Prop} {ρ : Sl} (h : PAt w p R vs) (h0 : 0 ≤ r.rank) (h1 : r.rank ≤ 63) (hb : w.heap[b3]? = some (.cells r.enc.toArray tRc (0, 0))) (hbp : ¬ PF p vs b3) (hv : vs[r.rank.toNat]? = some v) (hlen : (R r.rank.toNat).length ≤ 1000000)
    (e3 : ρ 3 = .pointer (some ⟨b3, 0, none⟩)) (e5 : ρ 5 = v) (e0 : ρ 0 = .pointer (some ⟨p, 0, none⟩))
    (hk : ∀ (w' : World) (vs' : List Value), PAt w' p (putR R r.rank.toNat (R r.rank.toNat ++ [r.new])) vs' → Mod (fun b => PF p vs b ∨ b = b3) w w' → (∀ b, PF p vs' b → PF p vs b ∨ w.heap.size ≤ b) → rt (.int .i64 0) w') : sx fn_ Try.prog 75 posted_Posted_Post_R2 (retK Try.prog [ResultVar.tmp 4] rt) ρ w := by
  rw [posted_Posted_Post_R2_eq]; unfold posted_Posted_Post_R2_F
  rw [e3, fo (show fieldOff Try.prog tRc 6 = some 6 by kernel_rfl), add_pl]
  refine stC rfl (by kernel_rfl) rfl hb (by simp [Rc.enc]) fun w1 hb1 hm1 hz1 => ?_
  rw [fo (show fieldOff Try.prog tRc 7 = some 7 by kernel_rfl), add_pl]
  refine stC rfl (by kernel_rfl) rfl hb1 (by simp [Rc.enc]) fun w2 hb2 hm2 hz2 => ?_
  rw [fo (show fieldOff Try.prog tRc 8 = some 8 by kernel_rfl), add_pl]
  refine stC rfl (by kernel_rfl) rfl hb2 (by simp [Rc.enc]) fun w3 hb3 hm3 hz3 => ?_
  have hm03 : Mod (fun b => b = b3) w w3 := (hm1.trans hm2).trans hm3
  have hbn : w3.heap[b3]? = some (.cells r.new.enc.toArray tRc (0, 0)) := hb3
  have h3 : PAt w3 p R vs := h.mod hm03 fun b z y => hbp (y ▸ z)
  have key : ∀ ρ1 : Sl, ρ1 3 = .pointer (some ⟨b3, 0, none⟩) → ρ1 5 = v → ρ1 0 = .pointer (some ⟨p, 0, none⟩) → W fn_ Try.prog 75 posted_Posted_Post_R3 (seqK (sx fn_ Try.prog 75 posted_Posted_Post_R4 (retK Try.prog [ResultVar.tmp 4] rt)) (retK Try.prog [ResultVar.tmp 4] rt)) ρ1 w3 := by
    intro ρ1 q3 q5 q0
    have hd : Mod none_ w3 { w3 with drawn := w3.drawn + 1 } := (Mod.refl _ w3).drawn _
    refine posted_Posted_Post_R3_held (D := []) (fun w' => w'.heap[b3]? = some (.cells r.new.enc.toArray tRc (0, 0))) (hd.blk hbn id) ?_
    have hb4 := hd.blk hbn id
    have h4 := h3.calm hd
    have hm04 := hm03.then hd fun i hi z => z.elim
    generalize ({ w3 with drawn := w3.drawn + 1 } : World) = wd at *
    unfold posted_Posted_Post_R3_H
    rw [q3, q5, q0]
    refine HV_of (fun w _ => run_fo (show fieldOff Try.prog tRc 1 = some 1 by kernel_rfl) _ w) ?_
    refine HV_of (v := .int .i64 r.rank) (fun w hw => run_ld1 vI rfl (by rw [add_pl, cell_blk hw]; rfl)) ?_
    refine HV_of (fun w hw => run_ldB Try.underlying24 rfl (by rw [iRc]; rfl) hw) ?_
    refine HN_ptr ?_
    refine HV_of (fun w _ => run_fo (show fieldOff Try.prog tPd 1 = some 1 by kernel_rfl) _ w) ?_
    refine bs_k (cs := r.new.enc.toArray) (by kernel_rfl) fun w5 hb5 hm5 hz5 => ?_
    refine ⟨hm5.blk hb4 id, ?_⟩
    have h5 := h4.calm hm5
    have hO := h5.rows _ _ hv
    refine ap_any eRcS hO (reads_blk (size := 9) (n := 1) hb5 rfl) (fun u hu => Rc.enc_mem [r.new] u (by simpa using hu)) (by unfold maxLen; omega) (by omega) (Nat.zero_le _) fun v' w6 ho6 hm6 hv6 => ?_
    have hvm := List.mem_of_getElem? hv
    have hm6' : Mod (fun b => sb v b) w5 w6 := hm6.mono fun b _ z => z.symm
    have hb6 := hm6'.blk (hm5.blk hb4 id) fun z => hbp (.inr ⟨v, hvm, z⟩)
    refine ⟨hb6, ?_⟩
    rw [add_pl]
    refine HV_of (fun w _ => run_arr h0 h1 w) ?_
    have hpb := hm6'.blk h5.blk (h5.ne v hvm)
    have hlen64 := h5.len
    have hrk : r.rank.toNat < 64 := by omega
    obtain ⟨g0, cap0, ev0, _⟩ := owns_some ho6 (by omega)
    refine stC rfl (by kernel_rfl) (by rw [ev0]; rfl) hpb (by simp; omega) fun w7 hb7 hm7 hz7 => ?_
    have hb67 := hm7.blk hb6 fun z => hbp (.inl z)
    refine ⟨hb67, ?_⟩
    rw [sq_n, posted_Posted_Post_R4_eq]; unfold posted_Posted_Post_R4_F
    show rt (.int .i64 0) w7
    have hpw5 : p < w5.heap.size := h5.old p (.inl rfl)
    have nv : ∀ g, sb v' g → sb v g ∨ g = w5.heap.size := fun g z => by
      unfold sb at z ⊢
      rcases hv6 with q | q
      · exact .inl (q ▸ z)
      · rw [q] at z; cases z; exact .inr rfl
    have nvp : ¬ sb v' p := fun z => by
      rcases nv p z with q | q
      · exact h5.ne v hvm q
      · omega
    have hm37 : Mod (fun b => PF p vs b ∨ b = b3) w w7 := by
      refine (hm04.mono fun b _ z => .inr z).then ?_ (fun i hi z => z)
      refine (hm5.mono fun b _ z => z.elim).then ?_ (fun i hi z => z)
      refine (hm6'.mono fun b _ z => .inl (.inr ⟨v, hvm, z⟩)).then ?_ (fun i hi z => z)
      exact hm7.mono fun b _ z => .inl (.inl z)
    have hs5 : w.heap.size ≤ w5.heap.size := Nat.le_trans hm04.size hm5.size
    refine hk w7 (vs.set r.rank.toNat v') ⟨?_, by rw [List.length_set]; exact hlen64, fun i u hu => ?_, fun u hu z => ?_, fun i j a b ha hb hij g za zb => ?_⟩ hm37 (fun b z => ?_)
    · rw [hb7, List.setIfInBounds_toArray, show 0 + 1 + r.rank.toNat = r.rank.toNat + 1 by omega, List.set_cons_succ]
    · unfold putR
      by_cases hi : i = r.rank.toNat
      · subst hi
        rw [if_pos rfl]
        rw [List.getElem?_set_self (by omega)] at hu
        cases hu
        have := owns_mod ho6 hm7 fun k z y => nvp (y ▸ z)
        rw [List.length_append, List.flatMap_append]
        simpa using this
      · rw [if_neg hi]
        rw [List.getElem?_set_ne (by omega)] at hu
        exact owns_mod (owns_mod (h5.rows i u hu) hm6' fun k z y => h5.dist i _ u v hu hv hi k z y) hm7 fun k z y => h5.ne u (List.mem_of_getElem? hu) (y ▸ z)
    · obtain ⟨i, hi⟩ := List.getElem?_of_mem hu
      by_cases hi' : i = r.rank.toNat
      · subst hi'
        rw [List.getElem?_set_self (by omega)] at hi
        cases hi
        exact nvp z
      · rw [List.getElem?_set_ne (by omega)] at hi
        exact h5.ne u (List.mem_of_getElem? hi) z
    · by_cases hi' : i = r.rank.toNat
      · subst hi'
        rw [List.getElem?_set_self (by omega)] at ha
        cases ha
        rw [List.getElem?_set_ne (by omega)] at hb
        rcases nv g za with q | q
        · exact h5.dist _ j v b hv hb hij g q zb
        · have := h5.old g (.inr ⟨b, List.mem_of_getElem? hb, zb⟩); omega
      · rw [List.getElem?_set_ne (by omega)] at ha
        by_cases hj' : j = r.rank.toNat
        · subst hj'
          rw [List.getElem?_set_self (by omega)] at hb
          cases hb
          rcases nv g zb with q | q
          · exact h5.dist i _ a v ha hv hi' g za q
          · have := h5.old g (.inr ⟨a, List.mem_of_getElem? ha, za⟩); omega
        · rw [List.getElem?_set_ne (by omega)] at hb
          exact h5.dist i j a b ha hb hij g za zb
    · rcases z with rfl | ⟨u, hu, hz⟩
      · exact .inl (.inl rfl)
      · obtain ⟨i, hi⟩ := List.getElem?_of_mem hu
        by_cases hi' : i = r.rank.toNat
        · subst hi'
          rw [List.getElem?_set_self (by omega)] at hi
          cases hi
          rcases nv b hz with q | q
          · exact .inl (.inr ⟨v, hvm, q⟩)
          · right; omega
        · rw [List.getElem?_set_ne (by omega)] at hi
          exact .inl (.inr ⟨u, List.mem_of_getElem? hi, hz⟩)
  exact key _ (by first | exact e3 | rfl) (by first | exact e5 | rfl) (by first | exact e0 | rfl)
end
end Go.Proofs.Ytmnkedgmpbcicaa.Que
set_option linter.unusedVariables false
set_option linter.unusedSimpArgs false
set_option maxRecDepth 8000
namespace Go.Proofs.Ytmnkedgmpbcicaa.Que
open Go Go.X Go.RowKit Go.Proofs.Ytmnkedgmpbcicaa.XF Go.Proofs.Ytmnkedgmpbcicaa.XG Go.Proofs.Ytmnkedgmpbcicaa.XK
section
variable {w : World} {p : Nat} {R : Rks} {vs : List Value}
theorem row_R {R : Rks} {n : Nat} (hlen : ∀ i, (R i).length ≤ n) (rk : Int) : (rowP R rk).length ≤ n := by
  unfold rowP
  split
  · exact hlen _
  · exact Nat.zero_le _
theorem Post_ok (h : PAt w p R vs) (hlen : ∀ i, (R i).length ≤ 1000000) (r : Rc) : Rt Try.prog 14 #[.pointer (some ⟨p, 0, none⟩), .agg r.enc.toArray] w fun v w' => v = .int .i64 (postV R r).2 ∧ ∃ vs', PAt w' p (postV R r).1 vs' ∧ PFr p w vs w' vs' := by
  refine posted_Posted_Post_calls ?_
  unfold posted_Posted_Post_F
  refine box_k (cs := r.enc.toArray) rfl fun w1 hb1 hm1 hz1 => ?_
  have h1 := h.calm hm1
  rw [BK_eqlP uPd]
  simp only [Option.isNone_some, ↓VG_u, ↓UG_u, ↓MG_u, ↓NG_u, ↓PG_u, ↓BG_u, ↓CG_u, ↓IG_u, ↓VGtt, ↓VGtf, ↓VGft, ↓VGff, ↓UGtt, ↓UGtf, ↓UGft, ↓UGff, ↓MGtt, ↓MGtf, ↓MGft, ↓MGff, ↓NGtt, ↓NGtf, ↓NGft, ↓NGff, ↓PGtt, ↓PGtf, ↓PGft, ↓PGff, ↓BGtt, ↓BGtf, ↓BGft, ↓BGff, ↓CGtt, ↓CGtf, ↓CGft, ↓CGff, ↓IGtt, ↓IGtf, ↓IGft, ↓IGff, ↓PKt, ↓PKf, ↓CDt, ↓CDf, ↓NOTt, ↓NOTf, ↓NK_ptr]
  rw [(f_made h1).e]
  try simp only [↓VG_u, ↓UG_u, ↓MG_u, ↓NG_u, ↓PG_u, ↓BG_u, ↓CG_u, ↓IG_u, ↓VGtt, ↓VGtf, ↓VGft, ↓VGff, ↓UGtt, ↓UGtf, ↓UGft, ↓UGff, ↓MGtt, ↓MGtf, ↓MGft, ↓MGff, ↓NGtt, ↓NGtf, ↓NGft, ↓NGff, ↓PGtt, ↓PGtf, ↓PGft, ↓PGff, ↓BGtt, ↓BGtf, ↓BGft, ↓BGff, ↓CGtt, ↓CGtf, ↓CGft, ↓CGff, ↓IGtt, ↓IGtf, ↓IGft, ↓IGff, ↓PKt, ↓PKf, ↓CDt, ↓CDf, ↓NOTt, ↓NOTf, ↓NK_ptr]
  have g1 : FO Try.prog w1 tRc 1 1 ⟨w.heap.size, 0, none⟩ 3 (.int .i64 r.rank) := FO.blk hb1 (by kernel_rfl) vI rfl rfl
  rw [g1.e]
  refine CK_st Try.func40 rfl rfl (of_ok' h1 r.rank) ?_
  rintro v w2 ⟨rfl, hrow, hv⟩
  have hbp : ¬ PF p vs w.heap.size := fun z => by have := h.old _ z; omega
  refine post_R0 hb1 hrow (row_R hlen _) rfl rfl ?_
  intro ρ3 w3 q61 hlo hm3
  have e3 : ρ3 3 = .pointer (some ⟨w.heap.size, 0, none⟩) := hlo 3 (by decide)
  have e5 : ρ3 5 = v := hlo 5 (by decide)
  have e0 : ρ3 0 = .pointer (some ⟨p, 0, none⟩) := hlo 0 (by decide)
  rw [sq_n, posted_Posted_Post_R1_eq]; unfold posted_Posted_Post_R1_F
  rw [q61]
  have h3 := h1.calm hm3
  unfold postV
  refine caseC (fun q => ?_) (fun q => ?_)
  · rw [q]
    exact ⟨rfl, vs, h3, PFr.calm (hm1.trans hm3)⟩
  · rw [q, sq_n]
    have hr : 0 ≤ r.rank ∧ r.rank ≤ 63 := by
      unfold badR at q
      simp only [Bool.or_eq_false_iff, Bool.not_eq_false', Bool.and_eq_true, decide_eq_true_eq] at q
      exact q.1.1.1.1.1
    have hrw : rowP R r.rank = R r.rank.toNat := by unfold rowP; rw [if_pos hr]
    refine post_R2 (r := r) h3 hr.1 hr.2 (hm3.blk hb1 id) hbp (hv hr) (hlen _) e3 e5 e0 fun w4 vs' h4 hm4 hf4 => ?_
    have s1 := hm1.size
    have s3 := hm3.size
    refine ⟨rfl, vs', ?_, ?_, ?_⟩
    · simp only [Bool.false_eq_true, if_false]
      rw [hrw]
      exact h4
    · refine (Mod.mono (hm1.trans hm3) fun b _ z => z.elim).then hm4 fun i hi z => ?_
      rcases z with z | z
      · exact z
      · omega
    · intro b z
      rcases hf4 b z with u | u
      · exact .inl u
      · right; omega
theorem place1_ok {w : World} {cb : Nat} {c : Int} (hb : w.heap[cb]? = some (.cells #[.int .i64 c] 3 (0, 0))) (r : Rc) : Rt Try.prog 67 #[.agg r.enc.toArray, .pointer (some ⟨cb, 0, none⟩)] w fun v w' => v = .bool (decide (r.call = c)) ∧ Mod none_ w w' := by
  refine posted_Posted_place_1_calls ?_
  unfold posted_Posted_place_1_F
  refine box_k (cs := r.enc.toArray) rfl fun w1 hb1 hm1 hz1 => ?_
  have g : FO Try.prog w1 tRc 2 2 ⟨w.heap.size, 0, none⟩ 3 (.int .i64 r.call) := FO.blk hb1 (by kernel_rfl) vI rfl rfl
  rw [g.e]
  refine ldOne rfl vI rfl (hm1.blk hb id) ?_
  rw [BK_eql]
  exact ⟨by by_cases e : r.call = c <;> simp [e], hm1⟩
def isC (c : Int) (r : Rc) : Bool := decide (r.call = c)
theorem place_ok' (h : PAt w p R vs) (hlen : ∀ i, (R i).length ≤ 1000000) (rk c : Int) : Rt Try.prog 42 #[.pointer (some ⟨p, 0, none⟩), .int .i64 rk, .int .i64 c] w fun v w' => v = .int .i64 (idxR (isC c) (rowP R rk)) ∧ Mod none_ w w' := by
  refine posted_Posted_place_calls ?_
  unfold posted_Posted_place_F
  refine box_k (cs := #[.int .i64 c]) rfl fun w1 hb1 hm1 hz1 => ?_
  refine CK_st Try.func40 rfl rfl (of_ok' (h.calm hm1) rk) ?_
  rintro v w2 ⟨rfl, hrow, hv⟩
  rw [mkFunc]
  have := row_R hlen rk
  refine CK_st Try.func66 rfl rfl (IndexFuncRc_ok (p := isC c) hrow (by omega) ?_) ?_
  · intro a _ w' hm K hK
    refine CK_fn Try.func67 rfl rfl (place1_ok (hm.blk hb1 id) a) ?_
    rintro _ w'' ⟨rfl, hm'⟩
    exact hK w'' hm'
  · rintro _ w3 ⟨rfl, hm3⟩
    exact ⟨rfl, hm1.trans hm3⟩
def atV (R : Rks) (rk c : Int) : Option Rc := (rowP R rk).find? (isC c)
def rcb (o : Option Rc) : Value := match o with | some r => .tuple #[.agg r.enc.toArray, .bool true] | none => .tuple #[.agg zRc.enc.toArray, .bool false]
theorem idxR_find {l : List Rc} {q : Rc → Bool} : (idxR q l < 0 ∧ l.find? q = none) ∨ ∃ (j : Nat) (r : Rc), idxR q l = (j : Int) ∧ l[j]? = some r ∧ l.find? q = some r ∧ l.findIdx? q = some j := by
  unfold idxR
  cases hq : l.findIdx? q with
  | none =>
    left
    rw [List.findIdx?_eq_none_iff] at hq
    exact ⟨by decide, List.find?_eq_none.2 fun x hx => by rw [hq x hx]; decide⟩
  | some j =>
    right
    have hq' := hq
    rw [List.findIdx?_eq_some_iff_getElem] at hq
    obtain ⟨hj, hp, hlt⟩ := hq
    refine ⟨j, l[j], rfl, List.getElem?_eq_getElem hj, ?_, rfl⟩
    rw [List.find?_eq_some_iff_getElem]
    exact ⟨hp, j, hj, rfl, fun i hi => by have := hlt i hi; simpa using this⟩
end
end Go.Proofs.Ytmnkedgmpbcicaa.Que
set_option linter.unusedVariables false
set_option linter.unusedSimpArgs false
set_option maxRecDepth 8000
namespace Go.Proofs.Ytmnkedgmpbcicaa.Que
open Go Go.X Go.RowKit Go.Proofs.Ytmnkedgmpbcicaa.XF Go.Proofs.Ytmnkedgmpbcicaa.XG Go.Proofs.Ytmnkedgmpbcicaa.XK
def skipV (r : Rc) (f : Int) : Bool := !decide (r.peer = -1) && !decide (r.peer = f)
def oneV (ls : List Ms) (r : Rc) (wait : List Rc) (f : Int) : Option Ms :=
  if skipV r f then none else match firstV ls (r.key, f, r.rank) r.tag with
    | none => none
    | some m => if wait.any (fun x => fitsV x m) then none else some m
def freeV (ls : List Ms) (r : Rc) (ahead : List Rc) : List Ms := (sendersV ls r.key r.rank).filterMap (oneV ls r (ahead.filter wt))
theorem free1_ok {w : World} {mb : Nat} {m : Ms} (hb : w.heap[mb]? = some (.cells m.enc.toArray tMs (0, 0))) (r : Rc) : Rt Try.prog 65 #[.agg r.enc.toArray, .pointer (some ⟨mb, 0, none⟩)] w fun v w' => v = .bool (fitsV r m) ∧ Mod none_ w w' := by
  refine posted_free_1_calls ?_
  unfold posted_free_1_F
  refine box_k (cs := r.enc.toArray) rfl fun w1 hb1 hm1 hz1 => ?_
  refine ldS rfl Try.underlying24 rfl (by rw [iRc]; rfl) hb1 ?_
  refine ldS rfl Try.underlying39 rfl (by rw [iMs]; rfl) (hm1.blk hb id) ?_
  refine CK_st Try.func48 rfl rfl (fits_ok w1 r m) ?_
  rintro _ w2 ⟨rfl, hm2⟩
  exact ⟨rfl, hm1.trans hm2⟩
section
variable {w wB : World} {q b4 : Nat} {ls : List Ms} {V : QV} {r : Rc} {wait : List Rc} {S : List Int} {vw vS : Value}
structure FIn (wB : World) (q b4 : Nat) (ls : List Ms) (V : QV) (r : Rc) (wait : List Rc) (S : List Int) (vw vS : Value) : Prop where
  q : QAt wB q ls V
  len : ls.length ≤ 1000000
  b : wB.heap[b4]? = some (.cells r.enc.toArray tRc (0, 0))
  wt : RcRow wB vw wait
  wl : wait.length ≤ 1000000
  s : wB.ownsRow 0 tI 1 vS S.length (ints S)
  sl : S.length ≤ 64
def FInv (wB : World) (q b4 : Nat) (ls : List Ms) (r : Rc) (wait : List Rc) (S : List Int) (vw vS : Value) (i : Nat) (ρ : Sl) (w' : World) : Prop :=
  ∃ o : Value, ρ 23 = .int .i64 i ∧ ρ 22 = .int .i64 S.length ∧ ρ 21 = vS ∧ ρ 4 = .pointer (some ⟨b4, 0, none⟩) ∧ ρ 0 = .pointer (some ⟨q, 0, none⟩) ∧ ρ 8 = vw ∧ ρ 7 = o ∧
    w'.ownsRow wB.heap.size tMs 8 o ((S.take i).filterMap (oneV ls r wait)).length (((S.take i).filterMap (oneV ls r wait)).flatMap Ms.enc) ∧ Mod none_ wB w'
theorem free_R2 {K : Exit → Sl → World → Prop} {ρ : Sl} {i : Nat} {x : Int} {o : Value} (hi : i < 64) (e23 : ρ 23 = .int .i64 i) (e22 : ρ 22 = .int .i64 S.length) (e21 : ρ 21 = vS) (e4 : ρ 4 = .pointer (some ⟨b4, 0, none⟩)) (e0 : ρ 0 = .pointer (some ⟨q, 0, none⟩)) (e8 : ρ 8 = vw) (e7 : ρ 7 = o)
    (hO : w.ownsRow wB.heap.size tMs 8 o ((S.take (i + 1)).filterMap (oneV ls r wait)).length (((S.take (i + 1)).filterMap (oneV ls r wait)).flatMap Ms.enc)) (hm : Mod none_ wB w)
    (hk : ∀ ρ', FInv wB q b4 ls r wait S vw vS (i + 1) ρ' w → K .normal ρ' w) : sx fn_ Try.prog 62 posted_free_R2 K ρ w := by
  rw [posted_free_R2_eq]; unfold posted_free_R2_F
  rw [e23, BK_add, wrap_i (by omega) (by omega)]
  exact hk _ ⟨o, rfl, e22, e21, e4, e0, e8, e7, hO, hm⟩
theorem take_one {S : List Int} {i : Nat} {x : Int} (h : S[i]? = some x) (g : Int → Option Ms) : (S.take (i + 1)).filterMap g = (S.take i).filterMap g ++ (match g x with | none => [] | some m => [m]) := by
  rw [List.take_add_one, h, Option.toList_some, List.filterMap_append]
  congr 1
  cases hg : g x <;> simp [hg]
theorem free_R3 {K : Exit → Sl → World → Prop} {ρ : Sl} {i mb : Nat} {x : Int} {o : Value} {fs : Option Ms} (h : FIn wB q b4 ls V r wait S vw vS) (hx : S[i]? = some x) (hsk : skipV r x = false) (hfs : firstV ls (r.key, x, r.rank) r.tag = fs)
    (hb : w.heap[mb]? = some (.cells (fs.getD zMs).enc.toArray tMs (0, 0))) (hbn : mb < w.heap.size)
    (hO : w.ownsRow wB.heap.size tMs 8 o ((S.take i).filterMap (oneV ls r wait)).length (((S.take i).filterMap (oneV ls r wait)).flatMap Ms.enc)) (hm : Mod none_ wB w) (hmo : ¬ sb o mb)
    (e11 : ρ 11 = .pointer (some ⟨mb, 0, none⟩)) (e12 : ρ 12 = .bool fs.isSome)
    (e23 : ρ 23 = .int .i64 i) (e22 : ρ 22 = .int .i64 S.length) (e21 : ρ 21 = vS) (e4 : ρ 4 = .pointer (some ⟨b4, 0, none⟩)) (e0 : ρ 0 = .pointer (some ⟨q, 0, none⟩)) (e8 : ρ 8 = vw) (e7 : ρ 7 = o)
    (hk : ∀ ρ' w', FInv wB q b4 ls r wait S vw vS (i + 1) ρ' w' → K .normal ρ' w') : sx fn_ Try.prog 62 posted_free_R3 (blkK 1 (seqK (sx fn_ Try.prog 62 posted_free_R2 K) K)) ρ w := by
  have hil := (List.getElem?_eq_some_iff.1 hx).1
  have hsl := h.sl
  rw [posted_free_R3_eq]; unfold posted_free_R3_F
  rw [e11, e12, e8, e7, mkFunc]
  have htk := take_one hx (oneV ls r wait)
  have hlen : ((S.take i).filterMap (oneV ls r wait)).length ≤ 64 := Nat.le_trans (List.length_filterMap_le _ _) (by rw [List.length_take]; omega)
  refine CK_st Try.func64 rfl rfl (ContainsFuncRc_ok (p := fun y => fitsV y (fs.getD zMs)) (h.wt.calm hm) (by have := h.wl; omega) ?_) ?_
  · intro a _ w' hm' K hK
    refine CK_fn Try.func65 rfl rfl (free1_ok (hm'.blk hb id) a) ?_
    rintro _ w'' ⟨rfl, hm''⟩
    exact hK w'' hm''
  rintro _ w1 ⟨rfl, hm1⟩
  have hO1 := owns_mod hO hm1 fun _ _ => id
  have hm01 := hm.trans hm1
  cases fs with
  | none =>
    have hone : oneV ls r wait x = none := by unfold oneV; rw [hsk, hfs]; rfl
    simp only [Option.isSome_none, ↓VG_u, ↓UG_u, ↓MG_u, ↓NG_u, ↓PG_u, ↓BG_u, ↓CG_u, ↓IG_u, ↓VGtt, ↓VGtf, ↓VGft, ↓VGff, ↓UGtt, ↓UGtf, ↓UGft, ↓UGff, ↓MGtt, ↓MGtf, ↓MGft, ↓MGff, ↓NGtt, ↓NGtf, ↓NGft, ↓NGff, ↓PGtt, ↓PGtf, ↓PGft, ↓PGff, ↓BGtt, ↓BGtf, ↓BGft, ↓BGff, ↓CGtt, ↓CGtf, ↓CGft, ↓CGff, ↓IGtt, ↓IGtf, ↓IGft, ↓IGff, ↓PKt, ↓PKf, ↓CDt, ↓CDf, ↓NOTt, ↓NOTf, ↓NK_ptr]
    rw [bk_n, sq_n]
    have : (S.take (i + 1)).filterMap (oneV ls r wait) = (S.take i).filterMap (oneV ls r wait) := by rw [htk, hone]; exact List.append_nil _
    rw [← this] at hO1
    exact free_R2 (x := x) (by omega) (by first | exact e23 | rfl) (by first | exact e22 | rfl) (by first | exact e21 | rfl) (by first | exact e4 | rfl) (by first | exact e0 | rfl) (by first | exact e8 | rfl) (by first | exact e7 | rfl) hO1 hm01 fun ρ' hF => hk ρ' w1 hF
  | some m =>
    have hone : oneV ls r wait x = if wait.any (fun y => fitsV y m) then none else some m := by unfold oneV; rw [hsk, hfs]; rfl
    simp only [Option.isSome_some, Option.getD_some, ↓VG_u, ↓UG_u, ↓MG_u, ↓NG_u, ↓PG_u, ↓BG_u, ↓CG_u, ↓IG_u, ↓VGtt, ↓VGtf, ↓VGft, ↓VGff, ↓UGtt, ↓UGtf, ↓UGft, ↓UGff, ↓MGtt, ↓MGtf, ↓MGft, ↓MGff, ↓NGtt, ↓NGtf, ↓NGft, ↓NGff, ↓PGtt, ↓PGtf, ↓PGft, ↓PGff, ↓BGtt, ↓BGtf, ↓BGft, ↓BGff, ↓CGtt, ↓CGtf, ↓CGft, ↓CGff, ↓IGtt, ↓IGtf, ↓IGft, ↓IGff, ↓PKt, ↓PKf, ↓CDt, ↓CDf, ↓NOTt, ↓NOTf, ↓NK_ptr] at hb ⊢
    cases hcl : wait.any (fun y => fitsV y m) with
    | true =>
      try simp only [↓VG_u, ↓UG_u, ↓MG_u, ↓NG_u, ↓PG_u, ↓BG_u, ↓CG_u, ↓IG_u, ↓VGtt, ↓VGtf, ↓VGft, ↓VGff, ↓UGtt, ↓UGtf, ↓UGft, ↓UGff, ↓MGtt, ↓MGtf, ↓MGft, ↓MGff, ↓NGtt, ↓NGtf, ↓NGft, ↓NGff, ↓PGtt, ↓PGtf, ↓PGft, ↓PGff, ↓BGtt, ↓BGtf, ↓BGft, ↓BGff, ↓CGtt, ↓CGtf, ↓CGft, ↓CGff, ↓IGtt, ↓IGtf, ↓IGft, ↓IGff, ↓PKt, ↓PKf, ↓CDt, ↓CDf, ↓NOTt, ↓NOTf, ↓NK_ptr]
      rw [bk_n, sq_n]
      have : (S.take (i + 1)).filterMap (oneV ls r wait) = (S.take i).filterMap (oneV ls r wait) := by rw [htk, hone, hcl]; exact List.append_nil _
      rw [← this] at hO1
      exact free_R2 (x := x) (by omega) (by first | exact e23 | rfl) (by first | exact e22 | rfl) (by first | exact e21 | rfl) (by first | exact e4 | rfl) (by first | exact e0 | rfl) (by first | exact e8 | rfl) (by first | exact e7 | rfl) hO1 hm01 fun ρ' hF => hk ρ' w1 hF
    | false =>
      try simp only [↓VG_u, ↓UG_u, ↓MG_u, ↓NG_u, ↓PG_u, ↓BG_u, ↓CG_u, ↓IG_u, ↓VGtt, ↓VGtf, ↓VGft, ↓VGff, ↓UGtt, ↓UGtf, ↓UGft, ↓UGff, ↓MGtt, ↓MGtf, ↓MGft, ↓MGff, ↓NGtt, ↓NGtf, ↓NGft, ↓NGff, ↓PGtt, ↓PGtf, ↓PGft, ↓PGff, ↓BGtt, ↓BGtf, ↓BGft, ↓BGff, ↓CGtt, ↓CGtf, ↓CGft, ↓CGff, ↓IGtt, ↓IGtf, ↓IGft, ↓IGff, ↓PKt, ↓PKf, ↓CDt, ↓CDf, ↓NOTt, ↓NOTf, ↓NK_ptr]
      have hb1 := hm1.blk hb id
      refine ldS rfl Try.underlying39 rfl (by rw [iMs]; rfl) hb1 ?_
      refine app1 hO1 hm01.size (by omega) fun _ o' w2 hO2 hm2 => ?_
      have : (S.take (i + 1)).filterMap (oneV ls r wait) = (S.take i).filterMap (oneV ls r wait) ++ [m] := by rw [htk, hone, hcl]; rfl
      rw [← this] at hO2
      rw [bk_n, sq_n]
      exact free_R2 (x := x) (by omega) (by first | exact e23 | rfl) (by first | exact e22 | rfl) (by first | exact e21 | rfl) (by first | exact e4 | rfl) (by first | exact e0 | rfl) (by first | exact e8 | rfl) rfl hO2 (hm01.then hm2 fun i hi z => by omega) fun ρ' hF => hk ρ' w2 hF
end
end Go.Proofs.Ytmnkedgmpbcicaa.Que
set_option linter.unusedVariables false
set_option linter.unusedSimpArgs false
set_option maxRecDepth 8000
namespace Go.Proofs.Ytmnkedgmpbcicaa.Que
open Go Go.X Go.RowKit Go.Proofs.Ytmnkedgmpbcicaa.XF Go.Proofs.Ytmnkedgmpbcicaa.XG Go.Proofs.Ytmnkedgmpbcicaa.XK
theorem free_ok {w : World} {q : Nat} {ls : List Ms} {V : QV} {ahead : List Rc} {va : Value} (hq : QAt w q ls V) (hg : FrmOk ls) (hL : ls.length ≤ 500000) (r : Rc) (ha : RcRow w va ahead) (hal : ahead.length ≤ 1000000) : Rt Try.prog 39 #[.pointer (some ⟨q, 0, none⟩), .agg r.enc.toArray, va] w (RowP w (freeV ls r ahead)) := by
  refine posted_free_calls ?_
  unfold posted_free_F
  refine box_k (cs := r.enc.toArray) rfl fun w1 hb1 hm1 hz1 => ?_
  refine CK_st Try.func46 rfl rfl (kept_ok (ha.calm hm1) hal) ?_
  rintro vw w2 ⟨hO2, hm2⟩
  have hb2 := hm2.blk hb1 id
  have g0 : FO Try.prog w2 tRc 0 0 ⟨w.heap.size, 0, none⟩ 9 (strV r.key) := FO.blk hb2 (by kernel_rfl) vS rfl rfl
  have g1 : FO Try.prog w2 tRc 1 1 ⟨w.heap.size, 0, none⟩ 3 (.int .i64 r.rank) := FO.blk hb2 (by kernel_rfl) vI rfl rfl
  rw [g0.e, g1.e]
  have hm12 := hm1.trans hm2
  refine CK_st Try.func62 rfl rfl (Senders_ok (hq.calm hm12) hg hL r.key r.rank) ?_
  rintro vZ w3 ⟨hO3, hm3⟩
  obtain ⟨A, c, es, _⟩ := reads_cap (reads_of_owns hO3)
  rw [es, len_sl vIs, ← es]
  have hm13 := hm12.trans hm3
  have hwl : (ahead.filter wt).length ≤ 1000000 := Nat.le_trans (List.length_filter_le _ _) hal
  have hin : FIn w3 q w.heap.size ls V r (ahead.filter wt) (sendersV ls r.key r.rank) vw vZ := ⟨hq.calm hm13, by omega, hm3.blk hb2 id, RcRow.calm (reads_of_owns hO2) hm3, hwl, owns_base hO3 (Nat.zero_le _), upto_len ls r.key r.rank 64⟩
  have s3 := hm13.size
  unfold freeV
  generalize sendersV ls r.key r.rank = S at *
  generalize ahead.filter wt = wait at *
  refine W_loop posted_free_L0_ok (fun ρ w' => ∃ i : Nat, i ≤ S.length ∧ FInv w3 q w.heap.size ls r wait S vw vZ i ρ w') (fun ρ _ => S.length - (intOf (ρ 23)).toNat)
    ⟨0, Nat.zero_le _, .slice none 0 0, rfl, rfl, rfl, rfl, rfl, rfl, rfl, World.ownsRow_nil _ _ _ _, Mod.refl _ _⟩ ?_
  rintro ρ w4 ⟨i, hi, o, e23, e22, e21, e4, e0, e8, e7, hO, hm⟩
  rw [posted_free_L0_eq]; unfold posted_free_L0_F
  rw [e23, e22, e21, e4, e0, BK_lss]
  have hsl := hin.sl
  by_cases hlt : i < S.length
  · rw [decide_eq_true (by omega)]
    refine condT ?_
    have hx : S[i]? = some S[i] := List.getElem?_eq_getElem hlt
    generalize S[i] = x at *
    obtain ⟨a, ha1, hl1⟩ := ixI hin.s hx
    rw [VK_eq_of (ha1 w4), VK_eq_of (hl1 w4 hm)]
    have hb4 := hm.blk hin.b id
    have k3 : FO Try.prog w4 tRc 3 3 ⟨w.heap.size, 0, none⟩ 3 (.int .i64 r.peer) := FO.blk hb4 (by kernel_rfl) vI rfl rfl
    have fin : ∀ (ρ' : Sl) (w' : World), FInv w3 q w.heap.size ls r wait S vw vZ (i + 1) ρ' w' → (∃ i : Nat, i ≤ S.length ∧ FInv w3 q w.heap.size ls r wait S vw vZ i ρ' w') ∧ S.length - (intOf (ρ' 23)).toNat < S.length - (intOf (.int .i64 (i : Int))).toNat := by
      intro ρ' w' hI
      refine ⟨⟨i + 1, hlt, hI⟩, ?_⟩
      obtain ⟨_, q23, _⟩ := hI
      rw [q23]
      simp only [intOf]; omega
    rw [k3.e]
    have k0 : FO Try.prog w4 tRc 0 0 ⟨w.heap.size, 0, none⟩ 9 (strV r.key) := FO.blk hb4 (by kernel_rfl) vS rfl rfl
    have k1 : FO Try.prog w4 tRc 1 1 ⟨w.heap.size, 0, none⟩ 3 (.int .i64 r.rank) := FO.blk hb4 (by kernel_rfl) vI rfl rfl
    have k4 : FO Try.prog w4 tRc 4 4 ⟨w.heap.size, 0, none⟩ 3 (.int .i64 r.tag) := FO.blk hb4 (by kernel_rfl) vI rfl rfl
    have hq4 := (hin.q).calm hm
    by_cases c1 : r.peer = -1
    · have hsk : skipV r x = false := by unfold skipV; rw [decide_eq_true c1]; rfl
      rw [NEf c1]
      try simp only [↓VG_u, ↓UG_u, ↓MG_u, ↓NG_u, ↓PG_u, ↓BG_u, ↓CG_u, ↓IG_u, ↓VGtt, ↓VGtf, ↓VGft, ↓VGff, ↓UGtt, ↓UGtf, ↓UGft, ↓UGff, ↓MGtt, ↓MGtf, ↓MGft, ↓MGff, ↓NGtt, ↓NGtf, ↓NGft, ↓NGff, ↓PGtt, ↓PGtf, ↓PGft, ↓PGff, ↓BGtt, ↓BGtf, ↓BGft, ↓BGff, ↓CGtt, ↓CGtf, ↓CGft, ↓CGff, ↓IGtt, ↓IGtf, ↓IGft, ↓IGff, ↓PKt, ↓PKf, ↓CDt, ↓CDf, ↓NOTt, ↓NOTf, ↓NK_ptr]
      rw [k0.e]
      try simp only [↓VG_u, ↓UG_u, ↓MG_u, ↓NG_u, ↓PG_u, ↓BG_u, ↓CG_u, ↓IG_u, ↓VGtt, ↓VGtf, ↓VGft, ↓VGff, ↓UGtt, ↓UGtf, ↓UGft, ↓UGff, ↓MGtt, ↓MGtf, ↓MGft, ↓MGff, ↓NGtt, ↓NGtf, ↓NGft, ↓NGff, ↓PGtt, ↓PGtf, ↓PGft, ↓PGff, ↓BGtt, ↓BGtf, ↓BGft, ↓BGff, ↓CGtt, ↓CGtf, ↓CGft, ↓CGff, ↓IGtt, ↓IGtf, ↓IGft, ↓IGff, ↓PKt, ↓PKf, ↓CDt, ↓CDf, ↓NOTt, ↓NOTf, ↓NK_ptr]
      rw [k1.e]
      try simp only [↓VG_u, ↓UG_u, ↓MG_u, ↓NG_u, ↓PG_u, ↓BG_u, ↓CG_u, ↓IG_u, ↓VGtt, ↓VGtf, ↓VGft, ↓VGff, ↓UGtt, ↓UGtf, ↓UGft, ↓UGff, ↓MGtt, ↓MGtf, ↓MGft, ↓MGff, ↓NGtt, ↓NGtf, ↓NGft, ↓NGff, ↓PGtt, ↓PGtf, ↓PGft, ↓PGff, ↓BGtt, ↓BGtf, ↓BGft, ↓BGff, ↓CGtt, ↓CGtf, ↓CGft, ↓CGff, ↓IGtt, ↓IGtf, ↓IGft, ↓IGff, ↓PKt, ↓PKf, ↓CDt, ↓CDf, ↓NOTt, ↓NOTf, ↓NK_ptr]
      rw [k4.e]
      refine CK_st Try.func63 rfl rfl (First_ok hq4 (by omega) r.key x r.rank r.tag) ?_
      rintro _ w5 ⟨rfl, hm5⟩
      rw [msb_get]
      generalize hfs : firstV ls (r.key, x, r.rank) r.tag = fs
      rw [extract_ok (v := .agg (fs.getD zMs).enc.toArray) rfl, extract_ok (v := .bool fs.isSome) rfl]
      refine slot_k fun w6 hb6 hm6 hz6 => ?_
      have hm46 := hm5.trans hm6
      refine free_R3 hin hx hsk hfs hb6 (by omega) (owns_mod hO hm46 fun _ _ => id) (hm.trans hm46) (fun z => by have := (owns_bd hO _ z).2; have := hm5.size; omega) rfl rfl (by first | exact e23 | rfl) (by first | exact e22 | rfl) (by first | exact e21 | rfl) (by first | exact e4 | rfl) (by first | exact e0 | rfl) (by first | exact e8 | rfl) (by first | exact e7 | rfl) ?_
      intro ρ' w' hI
      exact fin ρ' w' hI
    · rw [NEt c1]
      try simp only [↓VG_u, ↓UG_u, ↓MG_u, ↓NG_u, ↓PG_u, ↓BG_u, ↓CG_u, ↓IG_u, ↓VGtt, ↓VGtf, ↓VGft, ↓VGff, ↓UGtt, ↓UGtf, ↓UGft, ↓UGff, ↓MGtt, ↓MGtf, ↓MGft, ↓MGff, ↓NGtt, ↓NGtf, ↓NGft, ↓NGff, ↓PGtt, ↓PGtf, ↓PGft, ↓PGff, ↓BGtt, ↓BGtf, ↓BGft, ↓BGff, ↓CGtt, ↓CGtf, ↓CGft, ↓CGff, ↓IGtt, ↓IGtf, ↓IGft, ↓IGff, ↓PKt, ↓PKf, ↓CDt, ↓CDf, ↓NOTt, ↓NOTf, ↓NK_ptr]
      rw [k3.e]
      try simp only [↓VG_u, ↓UG_u, ↓MG_u, ↓NG_u, ↓PG_u, ↓BG_u, ↓CG_u, ↓IG_u, ↓VGtt, ↓VGtf, ↓VGft, ↓VGff, ↓UGtt, ↓UGtf, ↓UGft, ↓UGff, ↓MGtt, ↓MGtf, ↓MGft, ↓MGff, ↓NGtt, ↓NGtf, ↓NGft, ↓NGff, ↓PGtt, ↓PGtf, ↓PGft, ↓PGff, ↓BGtt, ↓BGtf, ↓BGft, ↓BGff, ↓CGtt, ↓CGtf, ↓CGft, ↓CGff, ↓IGtt, ↓IGtf, ↓IGft, ↓IGff, ↓PKt, ↓PKf, ↓CDt, ↓CDf, ↓NOTt, ↓NOTf, ↓NK_ptr]
      by_cases c2 : r.peer = x
      · have hsk : skipV r x = false := by unfold skipV; rw [decide_eq_true c2, Bool.not_true, Bool.and_false]
        rw [NEf c2]
        try simp only [↓VG_u, ↓UG_u, ↓MG_u, ↓NG_u, ↓PG_u, ↓BG_u, ↓CG_u, ↓IG_u, ↓VGtt, ↓VGtf, ↓VGft, ↓VGff, ↓UGtt, ↓UGtf, ↓UGft, ↓UGff, ↓MGtt, ↓MGtf, ↓MGft, ↓MGff, ↓NGtt, ↓NGtf, ↓NGft, ↓NGff, ↓PGtt, ↓PGtf, ↓PGft, ↓PGff, ↓BGtt, ↓BGtf, ↓BGft, ↓BGff, ↓CGtt, ↓CGtf, ↓CGft, ↓CGff, ↓IGtt, ↓IGtf, ↓IGft, ↓IGff, ↓PKt, ↓PKf, ↓CDt, ↓CDf, ↓NOTt, ↓NOTf, ↓NK_ptr]
        rw [k0.e]
        try simp only [↓VG_u, ↓UG_u, ↓MG_u, ↓NG_u, ↓PG_u, ↓BG_u, ↓CG_u, ↓IG_u, ↓VGtt, ↓VGtf, ↓VGft, ↓VGff, ↓UGtt, ↓UGtf, ↓UGft, ↓UGff, ↓MGtt, ↓MGtf, ↓MGft, ↓MGff, ↓NGtt, ↓NGtf, ↓NGft, ↓NGff, ↓PGtt, ↓PGtf, ↓PGft, ↓PGff, ↓BGtt, ↓BGtf, ↓BGft, ↓BGff, ↓CGtt, ↓CGtf, ↓CGft, ↓CGff, ↓IGtt, ↓IGtf, ↓IGft, ↓IGff, ↓PKt, ↓PKf, ↓CDt, ↓CDf, ↓NOTt, ↓NOTf, ↓NK_ptr]
        rw [k1.e]
        try simp only [↓VG_u, ↓UG_u, ↓MG_u, ↓NG_u, ↓PG_u, ↓BG_u, ↓CG_u, ↓IG_u, ↓VGtt, ↓VGtf, ↓VGft, ↓VGff, ↓UGtt, ↓UGtf, ↓UGft, ↓UGff, ↓MGtt, ↓MGtf, ↓MGft, ↓MGff, ↓NGtt, ↓NGtf, ↓NGft, ↓NGff, ↓PGtt, ↓PGtf, ↓PGft, ↓PGff, ↓BGtt, ↓BGtf, ↓BGft, ↓BGff, ↓CGtt, ↓CGtf, ↓CGft, ↓CGff, ↓IGtt, ↓IGtf, ↓IGft, ↓IGff, ↓PKt, ↓PKf, ↓CDt, ↓CDf, ↓NOTt, ↓NOTf, ↓NK_ptr]
        rw [k4.e]
        refine CK_st Try.func63 rfl rfl (First_ok hq4 (by omega) r.key x r.rank r.tag) ?_
        rintro _ w5 ⟨rfl, hm5⟩
        rw [msb_get]
        generalize hfs : firstV ls (r.key, x, r.rank) r.tag = fs
        rw [extract_ok (v := .agg (fs.getD zMs).enc.toArray) rfl, extract_ok (v := .bool fs.isSome) rfl]
        refine slot_k fun w6 hb6 hm6 hz6 => ?_
        have hm46 := hm5.trans hm6
        refine free_R3 hin hx hsk hfs hb6 (by omega) (owns_mod hO hm46 fun _ _ => id) (hm.trans hm46) (fun z => by have := (owns_bd hO _ z).2; have := hm5.size; omega) rfl rfl (by first | exact e23 | rfl) (by first | exact e22 | rfl) (by first | exact e21 | rfl) (by first | exact e4 | rfl) (by first | exact e0 | rfl) (by first | exact e8 | rfl) (by first | exact e7 | rfl) ?_
        intro ρ' w' hI
        exact fin ρ' w' hI
      · have hsk : skipV r x = true := by unfold skipV; rw [decide_eq_false c1, decide_eq_false c2]; rfl
        rw [NEt c2]
        try simp only [↓VG_u, ↓UG_u, ↓MG_u, ↓NG_u, ↓PG_u, ↓BG_u, ↓CG_u, ↓IG_u, ↓VGtt, ↓VGtf, ↓VGft, ↓VGff, ↓UGtt, ↓UGtf, ↓UGft, ↓UGff, ↓MGtt, ↓MGtf, ↓MGft, ↓MGff, ↓NGtt, ↓NGtf, ↓NGft, ↓NGff, ↓PGtt, ↓PGtf, ↓PGft, ↓PGff, ↓BGtt, ↓BGtf, ↓BGft, ↓BGff, ↓CGtt, ↓CGtf, ↓CGft, ↓CGff, ↓IGtt, ↓IGtf, ↓IGft, ↓IGff, ↓PKt, ↓PKf, ↓CDt, ↓CDf, ↓NOTt, ↓NOTf, ↓NK_ptr]
        have hone : oneV ls r wait x = none := by unfold oneV; rw [hsk]; rfl
        have : (S.take (i + 1)).filterMap (oneV ls r wait) = (S.take i).filterMap (oneV ls r wait) := by rw [take_one hx, hone]; exact List.append_nil _
        rw [← this] at hO
        exact free_R2 (x := x) (by omega) (by first | exact e23 | rfl) (by first | exact e22 | rfl) (by first | exact e21 | rfl) (by first | exact e4 | rfl) (by first | exact e0 | rfl) (by first | exact e8 | rfl) (by first | exact e7 | rfl) hO hm fun ρ' hF => fin ρ' w4 hF
  · obtain rfl : i = S.length := by omega
    rw [decide_eq_false (by omega)]
    refine condF ?_
    rw [List.take_length] at hO
    rw [sq_x, bk_x, sq_n, posted_free_R1_eq]; unfold posted_free_R1_F
    have key : ∀ ρ0 : Sl, ρ0 7 = o → retK Try.prog [ResultVar.tmp 6] (RowP w (S.filterMap (oneV ls r wait))) .ret (up (up ρ0 61 (ρ0 7)) 6 (ρ0 7)) w4 := by
      intro ρ0 z
      show RowP w _ (ρ0 7) w4
      rw [z]
      exact ⟨owns_base hO s3, hm13.trans hm⟩
    exact key _ (by first | exact e7 | rfl)
section
variable {w : World} {p q : Nat} {R : Rks} {vs : List Value} {ls : List Ms} {V : QV}
def mayV (R : Rks) (ls : List Ms) (rk c : Int) : List Ms := match (rowP R rk).findIdx? (isC c) with
  | none => []
  | some i => match (rowP R rk)[i]? with
    | none => []
    | some r => if r.done then [] else freeV ls r ((rowP R rk).take i)
theorem May_ok (h : PAt w p R vs) (hlen : ∀ i, (R i).length ≤ 1000000) (hq : QAt w q ls V) (hg : FrmOk ls) (hL : ls.length ≤ 500000) (rk c : Int) : Rt Try.prog 16 #[.pointer (some ⟨p, 0, none⟩), .pointer (some ⟨q, 0, none⟩), .int .i64 rk, .int .i64 c] w (RowP w (mayV R ls rk c)) := by
  refine posted_Posted_May_calls ?_
  unfold posted_Posted_May_F
  refine CK_st Try.func42 rfl rfl (place_ok' h hlen rk c) ?_
  rintro _ w1 ⟨rfl, hm1⟩
  rw [BK_lss]
  have h1 := h.calm hm1
  have hnil : RowP w [] (.slice none 0 0) w1 := ⟨World.ownsRow_nil _ _ _ _, hm1⟩
  unfold mayV
  rcases idxR_find (l := rowP R rk) (q := isC c) with ⟨hn, hf⟩ | ⟨j, r, hj, hjr, hf, hfi⟩
  · rw [decide_eq_true hn]
    refine condT ?_
    have : (rowP R rk).findIdx? (isC c) = none := by
      rw [List.findIdx?_eq_none_iff]
      intro x hx
      have := List.find?_eq_none.1 hf x hx
      simpa using this
    rw [this]
    exact hnil
  · rw [hj, decide_eq_false (by omega), hfi]
    refine condF ?_
    refine CK_st Try.func40 rfl rfl (of_ok' h1 rk) ?_
    rintro v w1 ⟨rfl, hrow, hv⟩
    have hrl := row_R hlen rk
    have hjl := (List.getElem?_eq_some_iff.1 hjr).1
    dsimp only
    rw [hjr]
    dsimp only
    generalize hL0 : rowP R rk = row at *
    refine ixRcA hrow hjr rfl fun a ha => ?_
    rw [fo (show fieldOff Try.prog tRc 6 = some 6 by kernel_rfl)]
    refine ld1 vB rfl (ha 6 (.bool r.done) rfl) ?_
    cases hd : r.done with
    | true =>
      refine condT ?_
      exact hnil
    | false =>
      refine condF ?_
      refine posted_Posted_May_R0_tail (D := []) ?_
      have hmd : Mod none_ w1 { w1 with drawn := w1.drawn + 1 } := (Mod.refl _ w1).drawn _
      generalize ({ w1 with drawn := w1.drawn + 1 } : World) = wd at *
      have hrd := hrow.calm hmd
      have key : ∀ (ρ0 : Sl) (K : Exit → Sl → World → Prop), ρ0 10 = v → ρ0 9 = .int .i64 (j : Int) → ρ0 1 = .pointer (some ⟨q, 0, none⟩) → (∀ (ρ' : Sl) (u : Value) (w' : World), ρ' 8 = u → RowP wd (freeV ls r (row.take j)) u w' → K .normal ρ' w') → posted_Posted_May_R0_T K ρ0 wd := by
        intro ρ0 K q10 q9 q1 hK
        unfold posted_Posted_May_R0_T
        rw [q10, q9, q1]
        obtain ⟨A, c, es, hnc⟩ := reads_cap hrd
        intro C
        have hat : ∃ a, A = some a ∧ ∀ k u, r.enc[k]? = some u → wd.cell? ((a.add (j * (8 + 1))).add k) = some u := by
          obtain ⟨_, A', c', es', _, hr⟩ := hrd
          rw [es] at es'
          cases es'
          have h0 : (row.flatMap Rc.enc)[j * (8 + 1) + 0]? = some (strV r.key) := by rw [fl_get (k := 8 + 1) Rc.enc_len hjr (by decide)]; rfl
          obtain ⟨a, ha', _⟩ := hr _ _ h0
          refine ⟨a, ha', fun k u hu => ?_⟩
          have hk : k < 8 + 1 := (List.getElem?_eq_some_iff.1 hu).1
          obtain ⟨a2, ha2, hc2⟩ := hr (j * (8 + 1) + k) u (by rw [fl_get (k := 8 + 1) Rc.enc_len hjr hk]; exact hu)
          rw [ha'] at ha2
          cases ha2
          rw [add_add]
          exact hc2
        obtain ⟨a, rfl, hcl⟩ := hat
        rw [es]
        refine QV_of (fun w' _ => run_ixa vRcS cRc (by omega) (by omega) w') ?_
        refine QV_of (v := .agg r.enc.toArray) (fun w' hw => ?_) ?_
        · cases (show w' = wd from hw)
          rw [show ((j : Int)).toNat = j by omega]
          exact run_ldA Try.underlying24 rfl (by rw [iRc]; rfl) hcl
        refine QV_of (fun w' _ => run_cut vRcS cRc (by omega) (by omega) (by omega) w') ?_
        have hcut : RcRow wd (sliced (some a) 0 (j : Int).toNat c (8 + 1)) (row.take j) := by
          have hlj : (row.take j).length = j := by rw [List.length_take]; omega
          unfold RcRow
          rw [hlj, show ((j : Int)).toNat = j by omega]
          have := reads_cut (m := j) (es ▸ hrd) (by omega) (8 + 1)
          rw [fl_take (k := 8 + 1) Rc.enc_len] at this
          exact this
        refine CK_st Try.func39 rfl rfl (free_ok ((hq.calm hm1).calm hmd) hg hL r hcut (by rw [List.length_take]; omega)) ?_
        rintro u w3 hr3
        exact hK _ u w3 rfl hr3
      refine key _ _ rfl rfl rfl ?_
      intro ρ' u w' q8 hr
      rw [sq_n, posted_Posted_May_R1_eq]; unfold posted_Posted_May_R1_F
      show RowP w _ (ρ' 8) w'
      rw [q8]
      have s1 := hm1.size
      have sd := hmd.size
      exact ⟨owns_base hr.1 (by omega), (hm1.trans hmd).trans hr.2⟩
theorem Probe_ok (h : PAt w p R vs) (hlen : ∀ i, (R i).length ≤ 1000000) (hq : QAt w q ls V) (hg : FrmOk ls) (hL : ls.length ≤ 500000) (r : Rc) : Rt Try.prog 13 #[.pointer (some ⟨p, 0, none⟩), .pointer (some ⟨q, 0, none⟩), .agg r.enc.toArray] w (RowP w (freeV ls r (rowP R r.rank))) := by
  refine posted_Posted_Probe_calls ?_
  unfold posted_Posted_Probe_F
  refine box_k (cs := r.enc.toArray) rfl fun w1 hb1 hm1 hz1 => ?_
  have h1 := h.calm hm1
  rw [BK_eqlP uPd]
  simp only [Option.isNone_some, ↓VG_u, ↓UG_u, ↓MG_u, ↓NG_u, ↓PG_u, ↓BG_u, ↓CG_u, ↓IG_u, ↓VGtt, ↓VGtf, ↓VGft, ↓VGff, ↓UGtt, ↓UGtf, ↓UGft, ↓UGff, ↓MGtt, ↓MGtf, ↓MGft, ↓MGff, ↓NGtt, ↓NGtf, ↓NGft, ↓NGff, ↓PGtt, ↓PGtf, ↓PGft, ↓PGff, ↓BGtt, ↓BGtf, ↓BGft, ↓BGff, ↓CGtt, ↓CGtf, ↓CGft, ↓CGff, ↓IGtt, ↓IGtf, ↓IGft, ↓IGff, ↓PKt, ↓PKf, ↓CDt, ↓CDf, ↓NOTt, ↓NOTf, ↓NK_ptr]
  rw [(f_made h1).e]
  try simp only [↓VG_u, ↓UG_u, ↓MG_u, ↓NG_u, ↓PG_u, ↓BG_u, ↓CG_u, ↓IG_u, ↓VGtt, ↓VGtf, ↓VGft, ↓VGff, ↓UGtt, ↓UGtf, ↓UGft, ↓UGff, ↓MGtt, ↓MGtf, ↓MGft, ↓MGff, ↓NGtt, ↓NGtf, ↓NGft, ↓NGff, ↓PGtt, ↓PGtf, ↓PGft, ↓PGff, ↓BGtt, ↓BGtf, ↓BGft, ↓BGff, ↓CGtt, ↓CGtf, ↓CGft, ↓CGff, ↓IGtt, ↓IGtf, ↓IGft, ↓IGff, ↓PKt, ↓PKf, ↓CDt, ↓CDf, ↓NOTt, ↓NOTf, ↓NK_ptr]
  have hmd : Mod none_ w1 { w1 with drawn := w1.drawn + 1 } := (Mod.refl _ w1).drawn _
  refine posted_Posted_Probe_R0_held (D := []) (fun w' => Mod none_ w1 w') hmd ?_
  generalize ({ w1 with drawn := w1.drawn + 1 } : World) = wd at *
  have key : ∀ (ρ0 : Sl) (K : Exit → Sl → World → Prop), ρ0 5 = .pointer (some ⟨w.heap.size, 0, none⟩) → ρ0 0 = .pointer (some ⟨p, 0, none⟩) → ρ0 1 = .pointer (some ⟨q, 0, none⟩) → (∀ (ρ' : Sl) (u : Value) (w' : World), ρ' 6 = u → RowP wd (freeV ls r (rowP R r.rank)) u w' → K .normal ρ' w') → posted_Posted_Probe_R0_H (fun w' => Mod none_ w1 w') K ρ0 wd := by
    intro ρ0 K q5 q0 q1 hK
    unfold posted_Posted_Probe_R0_H
    rw [q5, q0, q1]
    refine HV_of (fun w' hw => run_ldB Try.underlying24 rfl (by rw [iRc]; rfl) (hw.blk hb1 id)) ?_
    refine HV_of (fun w _ => run_fo (show fieldOff Try.prog tRc 1 = some 1 by kernel_rfl) _ w) ?_
    refine HV_of (v := .int .i64 r.rank) (fun w' hw => run_ld1 vI rfl (by rw [add_pl, cell_blk (hw.blk hb1 id)]; rfl)) ?_
    refine CK_st Try.func40 rfl rfl (of_ok' (h1.calm hmd) r.rank) ?_
    rintro v wd ⟨rfl, hrow, hv⟩
    refine ⟨hmd, ?_⟩
    refine CK_st Try.func39 rfl rfl (free_ok ((hq.calm hm1).calm hmd) hg hL r hrow (row_R hlen _)) ?_
    rintro u w3 hr3
    exact ⟨hmd.trans hr3.2, hK _ u w3 rfl hr3⟩
  refine key _ _ rfl rfl rfl ?_
  intro ρ' u w' q6 hr
  rw [sq_n, posted_Posted_Probe_R1_eq]; unfold posted_Posted_Probe_R1_F
  show RowP w _ (ρ' 6) w'
  rw [q6]
  have s1 := hm1.size
  have sd := hmd.size
  exact ⟨owns_base hr.1 (by omega), (hm1.trans hmd).trans hr.2⟩
end
end Go.Proofs.Ytmnkedgmpbcicaa.Que
