/- Several texts of this repo, one behind the other, without what is not used here. -/
import Derived.Test.YtandbmnhghmcgaaDoorProg
import Derived.Test.YtandbmnhghmcgaaDoorRows
import Derived.Lib.LaidTab
import Derived.Test.YtandbmnhghmcgaaDoorCG4
set_option linter.unusedVariables false
set_option maxRecDepth 100000
namespace Go.Proofs.YtandbmnhghmcgaaDoor.XG
open Go Go.X
noncomputable def dispatcherlaw15_CollGrows_b : Code := (Tryd.f5.body).getD .skip
noncomputable def dispatcherlaw15_CollGrows_L0 : Code := cAt [1, 1, 1, 1, 1, 1, 0, 1, 0, 0] dispatcherlaw15_CollGrows_b
noncomputable def dispatcherlaw15_CollGrows_R1 : Code := cAt [1, 1, 1, 1, 1, 1, 1] dispatcherlaw15_CollGrows_b
noncomputable def dispatcherlaw15_CollGrows_L2 : Code := cAt [1, 1, 1, 1, 1, 1, 0, 1, 0, 0, 1, 0, 0, 1, 1, 0, 1, 0, 0] dispatcherlaw15_CollGrows_b
noncomputable def dispatcherlaw15_CollGrows_R3 : Code := cAt [1, 1, 1, 1, 1, 1, 0, 1, 0, 0, 1, 0, 0, 1, 1, 1] dispatcherlaw15_CollGrows_b
noncomputable def dispatcherlaw15_CollGrows_R4 : Code := cAt [1, 1, 1, 1, 1, 1, 0, 1, 0, 0, 1, 1] dispatcherlaw15_CollGrows_b
noncomputable def dispatcherlaw15_CollGrows_R5 : Code := cAt [1, 1, 1, 1, 1, 1, 0, 1, 0, 0, 1, 0, 0, 1, 1, 0, 1, 0, 0, 1, 0, 0, 0] dispatcherlaw15_CollGrows_b
noncomputable def dispatcherlaw15_CollGrows_R6 : Code := cAt [1, 1, 1, 1, 1, 1, 0, 1, 0, 0, 1, 0, 0, 1, 1, 0, 1, 0, 0, 1, 0, 0, 1] dispatcherlaw15_CollGrows_b
noncomputable def dispatcherlaw15_CollGrows_R7 : Code := cAt [1, 1, 1, 1, 1, 1, 0, 1, 0, 0, 1, 0, 0, 1, 1, 0, 1, 0, 0, 1, 1] dispatcherlaw15_CollGrows_b
noncomputable def dispatcherlaw15_CollGrows_L8 : Code := cAt [1, 1, 1, 1, 1, 1, 0, 1, 0, 0, 1, 0, 0, 1, 1, 1, 0, 1, 0, 0] dispatcherlaw15_CollGrows_b
noncomputable def dispatcherlaw15_CollGrows_R9 : Code := cAt [1, 1, 1, 1, 1, 1, 0, 1, 0, 0, 1, 0, 0, 1, 1, 1, 1] dispatcherlaw15_CollGrows_b
noncomputable def dispatcherlaw15_CollGrows_R10 : Code := cAt [1, 1, 1, 1, 1, 1, 0, 1, 0, 0, 1, 0, 0, 1, 1, 0, 1, 0, 0, 1, 0, 0, 1, 0] dispatcherlaw15_CollGrows_b
noncomputable def dispatcherlaw15_CollGrows_R11 : Code := cAt [1, 1, 1, 1, 1, 1, 0, 1, 0, 0, 1, 0, 0, 1, 1, 0, 1, 0, 0, 1, 0, 0, 1, 1] dispatcherlaw15_CollGrows_b
noncomputable def dispatcherlaw15_CollGrows_R12 : Code := cAt [1, 1, 1, 1, 1, 1, 0, 1, 0, 0, 1, 0, 0, 1, 1, 1, 0, 1, 0, 0, 1, 1] dispatcherlaw15_CollGrows_b
noncomputable def dispatcherlaw15_CollGrows_R13 : Code := cAt [1, 1, 1, 1, 1, 1, 0, 1, 0, 0, 1, 0, 0, 1, 1, 1, 0, 1, 0, 0, 1, 0, 0, 0] dispatcherlaw15_CollGrows_b
noncomputable def dispatcherlaw15_CollGrows_R14 : Code := cAt [1, 1, 1, 1, 1, 1, 0, 1, 0, 0, 1, 0, 0, 1, 1, 1, 0, 1, 0, 0, 1, 0, 0, 1] dispatcherlaw15_CollGrows_b
noncomputable def dispatcherlaw15_CollGrows_L0_F (z : At) (K : Exit → Sl → World → Prop) (ρ : Sl) (w : World) : Prop :=
  IK Tryd.prog .len #[22] 3 [false] [(ρ 1)] w fun x27 w => BK Tryd.prog .lss 3 (.tmp 25) (.tmp 27) (ρ 9) x27 w fun x28 w => CondK x28 (VK Tryd.prog (Instr.indexAt 22 (ρ 1) (ρ 9)) w fun x33 w => VK Tryd.prog (Instr.loadAt 36 x33) w fun x34 w => VK Tryd.prog (Instr.alloc 36 true (.tuple #[])) w fun x10 w => UK Tryd.prog (Instr.storeAt 36 x10 x34) w fun _ w => VK Tryd.prog (Instr.fieldAt 36 x10 0) w fun x37 w => VK Tryd.prog (Instr.loadAt 32 x37) w fun x38 w => VK Tryd.prog (Instr.fieldAt 36 x10 1) w fun x39 w => VK Tryd.prog (Instr.loadAt 3 x39) w fun x40 w => VK Tryd.prog (Instr.fieldAt 36 x10 2) w fun x41 w => VK Tryd.prog (Instr.loadAt 34 x41) w fun x42 w => CK Tryd.prog (Value.func (Fn.func 12) #[] #[]) [(ρ 5), x38, x40, x42] w fun x43 w => VK Tryd.prog (Instr.extract x43 0) w fun x44 w => VK Tryd.prog (Instr.extract x43 1) w fun x45 w => W z Tryd.prog 131 (Code.loop dispatcherlaw15_CollGrows_L2) (blkK 2 (seqK (sx z Tryd.prog 131 dispatcherlaw15_CollGrows_R3 (blkK 1 (seqK (sx z Tryd.prog 131 dispatcherlaw15_CollGrows_R4 K) K))) (blkK 1 (seqK (sx z Tryd.prog 131 dispatcherlaw15_CollGrows_R4 K) K)))) (up (up (up (up (up (up (up (up (up (up (up (up (up (up (up (up (up (up (up (up (up (up (up ρ 25 (ρ 9)) 26 (ρ 1)) 27 x27) 28 x28) 31 (ρ 1)) 32 (ρ 9)) 33 x33) 34 x34) 10 x10) 36 (ρ 5)) 37 x37) 38 x38) 39 x39) 40 x40) 41 x41) 42 x42) 43 x43) 35 x43) 44 x44) 45 x45) 11 x44) 12 x45) 13 (Value.int .i64 0)) w) (K (.exit 0) (up (up (up (up ρ 25 (ρ 9)) 26 (ρ 1)) 27 x27) 28 x28) w)
theorem dispatcherlaw15_CollGrows_L0_eq (z : At) (K : Exit → Sl → World → Prop) (ρ : Sl) (w : World) : sx z Tryd.prog 131 dispatcherlaw15_CollGrows_L0 K ρ w = dispatcherlaw15_CollGrows_L0_F z K ρ w := by kernel_rfl
theorem dispatcherlaw15_CollGrows_L0_ok : dstOk 131 dispatcherlaw15_CollGrows_L0 = true := by kernel_rfl
noncomputable def dispatcherlaw15_CollGrows_R1_F (z : At) (K : Exit → Sl → World → Prop) (ρ : Sl) (w : World) : Prop :=
  K .ret (up ρ 4 (Value.bool true)) w
theorem dispatcherlaw15_CollGrows_R1_eq (z : At) (K : Exit → Sl → World → Prop) (ρ : Sl) (w : World) : sx z Tryd.prog 131 dispatcherlaw15_CollGrows_R1 K ρ w = dispatcherlaw15_CollGrows_R1_F z K ρ w := by kernel_rfl
noncomputable def dispatcherlaw15_CollGrows_L2_F (z : At) (K : Exit → Sl → World → Prop) (ρ : Sl) (w : World) : Prop :=
  IK Tryd.prog .len #[54] 3 [false] [(ρ 6)] w fun x48 w => BK Tryd.prog .lss 3 (.tmp 46) (.tmp 48) (ρ 13) x48 w fun x49 w => CondK x49 (W z Tryd.prog 131 dispatcherlaw15_CollGrows_R5 (seqK (sx z Tryd.prog 131 dispatcherlaw15_CollGrows_R6 (blkK 3 (seqK (sx z Tryd.prog 131 dispatcherlaw15_CollGrows_R7 K) K))) (blkK 3 (seqK (sx z Tryd.prog 131 dispatcherlaw15_CollGrows_R7 K) K))) (up (up (up (up ρ 46 (ρ 13)) 47 (ρ 6)) 48 x48) 49 x49) w) (K (.exit 2) (up (up (up (up ρ 46 (ρ 13)) 47 (ρ 6)) 48 x48) 49 x49) w)
theorem dispatcherlaw15_CollGrows_L2_eq (z : At) (K : Exit → Sl → World → Prop) (ρ : Sl) (w : World) : sx z Tryd.prog 131 dispatcherlaw15_CollGrows_L2 K ρ w = dispatcherlaw15_CollGrows_L2_F z K ρ w := by kernel_rfl
theorem dispatcherlaw15_CollGrows_L2_ok : dstOk 131 dispatcherlaw15_CollGrows_L2 = true := by kernel_rfl
noncomputable def dispatcherlaw15_CollGrows_R3_F (z : At) (K : Exit → Sl → World → Prop) (ρ : Sl) (w : World) : Prop :=
  W z Tryd.prog 131 (Code.loop dispatcherlaw15_CollGrows_L8) (blkK 4 (seqK (sx z Tryd.prog 131 dispatcherlaw15_CollGrows_R9 K) K)) (up ρ 16 (Value.int .i64 0)) w
theorem dispatcherlaw15_CollGrows_R3_eq (z : At) (K : Exit → Sl → World → Prop) (ρ : Sl) (w : World) : sx z Tryd.prog 131 dispatcherlaw15_CollGrows_R3 K ρ w = dispatcherlaw15_CollGrows_R3_F z K ρ w := by kernel_rfl
noncomputable def dispatcherlaw15_CollGrows_R4_F (z : At) (K : Exit → Sl → World → Prop) (ρ : Sl) (w : World) : Prop :=
  BK Tryd.prog .add 3 (.tmp 29) (.const (Value.int .i64 1)) (ρ 9) (Value.int .i64 1) w fun x30 w => K .normal (up (up (up ρ 29 (ρ 9)) 30 x30) 9 x30) w
theorem dispatcherlaw15_CollGrows_R4_eq (z : At) (K : Exit → Sl → World → Prop) (ρ : Sl) (w : World) : sx z Tryd.prog 131 dispatcherlaw15_CollGrows_R4 K ρ w = dispatcherlaw15_CollGrows_R4_F z K ρ w := by kernel_rfl
noncomputable def dispatcherlaw15_CollGrows_R5_ops : Array Oper := opsOf dispatcherlaw15_CollGrows_R5
def dispatcherlaw15_CollGrows_R5_H (S : World → Prop) (K : Exit → Sl → World → Prop) (ρ : Sl) (w : World) : Prop :=
  HK Tryd.prog S (do pure (Next.value (← Instr.indexAt 30 (ρ 7) (ρ 13)))) fun x57 => HK Tryd.prog S (do pure (Next.value (← Instr.loadAt 3 x57))) fun x58 => HK Tryd.prog S (do pure (Next.value (← Instr.indexAt 22 (ρ 1) x58))) fun x59 => HK Tryd.prog S (do pure (Next.value (← Instr.fieldAt 36 x59 0))) fun x60 => HK Tryd.prog S (do pure (Next.value (← Instr.fieldAt 32 x60 0))) fun x61 => HK Tryd.prog S (do pure (Next.value (← Instr.loadAt 9 x61))) fun x62 => HK Tryd.prog S (do pure (Next.value (← Instr.indexAt 30 (ρ 7) (ρ 13)))) fun x66 => HK Tryd.prog S (do pure (Next.value (← Instr.loadAt 3 x66))) fun x67 => HK Tryd.prog S (do pure (Next.value (← Instr.indexAt 22 (ρ 1) x67))) fun x68 => HK Tryd.prog S (do pure (Next.value (← Instr.fieldAt 36 x68 1))) fun x69 => HK Tryd.prog S (do pure (Next.value (← Instr.loadAt 3 x69))) fun x70 => HK Tryd.prog S (do pure (Next.value (← Instr.indexAt 30 (ρ 8) (ρ 13)))) fun x73 => HK Tryd.prog S (do pure (Next.value (← Instr.loadAt 3 x73))) fun x74 => (CK Tryd.prog (Value.func (Fn.func 27) #[] #[]) [(ρ 5), x62, x70, x74] w fun x75 w => S w ∧ (HK Tryd.prog S (do pure (Next.value (← Instr.extract x75 0))) fun x76 => HK Tryd.prog S (do pure (Next.value (← Instr.extract x75 1))) fun x77 => VK Tryd.prog (Instr.alloc 57 true (.tuple #[])) w fun x14 w => S w ∧ (UK Tryd.prog (Instr.storeAt 57 x14 x76) w fun _ w => S w ∧ (K Exit.normal (up (up (up (up (up (up (up (up (up (up (up (up (up (up (up (up (up (up (up (up (up (up (up (up (up (up (up (up ρ 53 (ρ 5)) 54 (ρ 1)) 55 (ρ 7)) 56 (ρ 13)) 57 x57) 58 x58) 59 x59) 60 x60) 61 x61) 62 x62) 63 (ρ 1)) 64 (ρ 7)) 65 (ρ 13)) 66 x66) 67 x67) 68 x68) 69 x69) 70 x70) 71 (ρ 8)) 72 (ρ 13)) 73 x73) 74 x74) 75 x75) 52 x75) 76 x76) 77 x77) 14 x14) 15 x77) w)))) ∧ (VK Tryd.prog (Instr.alloc 57 true (.tuple #[])) w fun x14_1 w => S w ∧ (CK Tryd.prog (Value.func (Fn.func 27) #[] #[]) [(ρ 5), x62, x70, x74] w fun x75_1 w => S w ∧ (HK Tryd.prog S (do pure (Next.value (← Instr.extract x75_1 0))) fun x76_1 => HK Tryd.prog S (do pure (Next.value (← Instr.extract x75_1 1))) fun x77_1 => UK Tryd.prog (Instr.storeAt 57 x14_1 x76_1) w fun _ w => S w ∧ (K Exit.normal (up (up (up (up (up (up (up (up (up (up (up (up (up (up (up (up (up (up (up (up (up (up (up (up (up (up (up (up ρ 53 (ρ 5)) 54 (ρ 1)) 55 (ρ 7)) 56 (ρ 13)) 57 x57) 58 x58) 59 x59) 60 x60) 61 x61) 62 x62) 63 (ρ 1)) 64 (ρ 7)) 65 (ρ 13)) 66 x66) 67 x67) 68 x68) 69 x69) 70 x70) 71 (ρ 8)) 72 (ρ 13)) 73 x73) 74 x74) 14 x14_1) 75 x75_1) 52 x75_1) 76 x76_1) 77 x77_1) 15 x77_1) w))))
theorem dispatcherlaw15_CollGrows_R5_held {D : List Deferred} (S : World → Prop) {K : Exit → Sl → World → Prop} {ρ : Sl} {w : World} (hS : S { w with drawn := w.drawn + 1 }) (h : dispatcherlaw15_CollGrows_R5_H S K ρ { w with drawn := w.drawn + 1 }) : W ⟨none, D⟩ Tryd.prog 131 dispatcherlaw15_CollGrows_R5 K ρ w := by
  have e : dispatcherlaw15_CollGrows_R5 = .region (idOf dispatcherlaw15_CollGrows_R5) dispatcherlaw15_CollGrows_R5_ops true := by kernel_rfl
  have q : sxd Tryd.prog S dispatcherlaw15_CollGrows_R5_ops (K .normal) (Pd.take 0 (Pd.take 1 (Pd.take 2 (Pd.take 3 (Pd.take 4 (Pd.take 5 (Pd.take 6 (Pd.take 7 (Pd.take 8 (Pd.take 9 (Pd.take 10 (Pd.take 11 (Pd.take 12 (Pd.take 13 (Pd.take 14 (Pd.take 15 (Pd.take 16 (Pd.take 17 (Pd.take 18 (Pd.take 19 (Pd.take 20 (Pd.take 21 (Pd.two false false 22 26 (Pd.take 23 (Pd.take 24 (Pd.take 25 (Pd.only false 26 (Pd.only false 27 (Pd.take 28 Pd.done)))))) (Pd.only false 22 (Pd.take 23 (Pd.take 24 (Pd.take 25 (Pd.only false 27 (Pd.take 28 Pd.done))))))))))))))))))))))))))))) ρ { w with drawn := w.drawn + 1 } = dispatcherlaw15_CollGrows_R5_H S K ρ { w with drawn := w.drawn + 1 } := by kernel_rfl
  rw [e]
  exact W_pland S (Pd.take 0 (Pd.take 1 (Pd.take 2 (Pd.take 3 (Pd.take 4 (Pd.take 5 (Pd.take 6 (Pd.take 7 (Pd.take 8 (Pd.take 9 (Pd.take 10 (Pd.take 11 (Pd.take 12 (Pd.take 13 (Pd.take 14 (Pd.take 15 (Pd.take 16 (Pd.take 17 (Pd.take 18 (Pd.take 19 (Pd.take 20 (Pd.take 21 (Pd.two false false 22 26 (Pd.take 23 (Pd.take 24 (Pd.take 25 (Pd.only false 26 (Pd.only false 27 (Pd.take 28 Pd.done)))))) (Pd.only false 22 (Pd.take 23 (Pd.take 24 (Pd.take 25 (Pd.only false 27 (Pd.take 28 Pd.done))))))))))))))))))))))))))))) (by kernel_rfl) (by kernel_rfl) (by kernel_rfl) (by kernel_rfl) hS (Eq.mpr q h)
noncomputable def dispatcherlaw15_CollGrows_R6_F (z : At) (K : Exit → Sl → World → Prop) (ρ : Sl) (w : World) : Prop :=
  W z Tryd.prog 131 dispatcherlaw15_CollGrows_R10 (seqK (sx z Tryd.prog 131 dispatcherlaw15_CollGrows_R11 K) K) ρ w
theorem dispatcherlaw15_CollGrows_R6_eq (z : At) (K : Exit → Sl → World → Prop) (ρ : Sl) (w : World) : sx z Tryd.prog 131 dispatcherlaw15_CollGrows_R6 K ρ w = dispatcherlaw15_CollGrows_R6_F z K ρ w := by kernel_rfl
noncomputable def dispatcherlaw15_CollGrows_R7_F (z : At) (K : Exit → Sl → World → Prop) (ρ : Sl) (w : World) : Prop :=
  BK Tryd.prog .add 3 (.tmp 50) (.const (Value.int .i64 1)) (ρ 13) (Value.int .i64 1) w fun x51 w => K .normal (up (up (up ρ 50 (ρ 13)) 51 x51) 13 x51) w
theorem dispatcherlaw15_CollGrows_R7_eq (z : At) (K : Exit → Sl → World → Prop) (ρ : Sl) (w : World) : sx z Tryd.prog 131 dispatcherlaw15_CollGrows_R7 K ρ w = dispatcherlaw15_CollGrows_R7_F z K ρ w := by kernel_rfl
noncomputable def dispatcherlaw15_CollGrows_L8_F (z : At) (K : Exit → Sl → World → Prop) (ρ : Sl) (w : World) : Prop :=
  BK Tryd.prog .leq 3 (.tmp 89) (.tmp 90) (ρ 16) (ρ 9) w fun x91 w => MG Tryd.prog x91 true (ρ 12) w fun x93 w => BG Tryd.prog x91 true .eql 37 (.tmp 93) (.const (Value.int .i64 0)) x93 (Value.int .i64 0) w fun x94 w => PK Tryd.prog x91 x94 (Value.bool false) w fun x95 w => CondK x95 (W z Tryd.prog 131 dispatcherlaw15_CollGrows_R13 (seqK (sx z Tryd.prog 131 dispatcherlaw15_CollGrows_R14 (blkK 5 (seqK (sx z Tryd.prog 131 dispatcherlaw15_CollGrows_R12 K) K))) (blkK 5 (seqK (sx z Tryd.prog 131 dispatcherlaw15_CollGrows_R12 K) K))) (up (up (up (up (up (up (up ρ 89 (ρ 16)) 90 (ρ 9)) 91 x91) 92 x91) 93 x93) 94 x94) 95 x95) w) (K (.exit 4) (up (up (up (up (up (up (up ρ 89 (ρ 16)) 90 (ρ 9)) 91 x91) 92 x91) 93 x93) 94 x94) 95 x95) w)
theorem dispatcherlaw15_CollGrows_L8_eq (z : At) (K : Exit → Sl → World → Prop) (ρ : Sl) (w : World) : sx z Tryd.prog 131 dispatcherlaw15_CollGrows_L8 K ρ w = dispatcherlaw15_CollGrows_L8_F z K ρ w := by kernel_rfl
theorem dispatcherlaw15_CollGrows_L8_ok : dstOk 131 dispatcherlaw15_CollGrows_L8 = true := by kernel_rfl
noncomputable def dispatcherlaw15_CollGrows_R9_F (z : At) (K : Exit → Sl → World → Prop) (ρ : Sl) (w : World) : Prop :=
  IK Tryd.prog .len #[54] 3 [false] [(ρ 6)] w fun x129 w => BK Tryd.prog .gtr 3 (.tmp 129) (.const (Value.int .i64 200)) x129 (Value.int .i64 200) w fun x130 w => CondK x130 (K .ret (up (up (up (up ρ 128 (ρ 6)) 129 x129) 130 x130) 4 (Value.bool true)) w) (K .normal (up (up (up ρ 128 (ρ 6)) 129 x129) 130 x130) w)
theorem dispatcherlaw15_CollGrows_R9_eq (z : At) (K : Exit → Sl → World → Prop) (ρ : Sl) (w : World) : sx z Tryd.prog 131 dispatcherlaw15_CollGrows_R9 K ρ w = dispatcherlaw15_CollGrows_R9_F z K ρ w := by kernel_rfl
noncomputable def dispatcherlaw15_CollGrows_R10_ops : Array Oper := opsOf dispatcherlaw15_CollGrows_R10
def dispatcherlaw15_CollGrows_R10_Q (C : World → Prop) (K : Exit → Sl → World → Prop) (ρ : Sl) : Prop :=
  QK Tryd.prog C (do pure (Next.value (← Op.unary UnOp.not (ρ 15)))) fun x79 => QG Tryd.prog C x79 false  (do pure (Next.value (← Instr.loadAt 57 (ρ 14)))) fun x81 => QG Tryd.prog C x79 false  (pure (Next.value (ρ 6))) fun x82 => QG Tryd.prog C x79 false  (pure (Next.value (ρ 13))) fun x83 => QG Tryd.prog C x79 false  (do pure (Next.value (← Instr.indexAt 54 x82 x83))) fun x84 => QG Tryd.prog C x79 false  (do pure (Next.value (← Instr.loadAt 57 x84))) fun x85 => QG Tryd.prog C x79 false  (do let d ← Deferred.ofValue (Value.func (Fn.func 28) #[] #[]) [x81, x85].toArray; invoke d.target d.args) fun x86 => QG Tryd.prog C x79 false  (do pure (Next.value (← Op.unary UnOp.not x86))) fun x87 => QK Tryd.prog C (do pure (Next.value (if ← asBool x79 then (Value.bool true) else x87))) fun x88 => ∀ w', C w' → K Exit.normal (up (up (up (up (up (up (up (up (up (up (up ρ 78 (ρ 15)) 79 x79) 80 x79) 81 x81) 82 x82) 83 x83) 84 x84) 85 x85) 86 x86) 87 x87) 88 x88) w'
theorem dispatcherlaw15_CollGrows_R10_quiet {D : List Deferred} (C : World → Prop) {K : Exit → Sl → World → Prop} {ρ : Sl} {w : World} (hC : C { w with drawn := w.drawn + 1 }) (h : dispatcherlaw15_CollGrows_R10_Q C K ρ) : W ⟨none, D⟩ Tryd.prog 131 dispatcherlaw15_CollGrows_R10 K ρ w := by
  have e : dispatcherlaw15_CollGrows_R10 = .region (idOf dispatcherlaw15_CollGrows_R10) dispatcherlaw15_CollGrows_R10_ops true := by kernel_rfl
  have q : sxq Tryd.prog C dispatcherlaw15_CollGrows_R10_ops (fun ρ' => ∀ w', C w' → K .normal ρ' w') dispatcherlaw15_CollGrows_R10_ops.toList ρ = dispatcherlaw15_CollGrows_R10_Q C K ρ := by kernel_rfl
  rw [e]
  exact W_quiet C (by kernel_rfl) (by kernel_rfl) (by kernel_rfl) hC (Eq.mpr q h)
noncomputable def dispatcherlaw15_CollGrows_R11_F (z : At) (K : Exit → Sl → World → Prop) (ρ : Sl) (w : World) : Prop :=
  CondK (ρ 88) (K .ret (up ρ 4 (Value.bool false)) w) (K .normal ρ w)
theorem dispatcherlaw15_CollGrows_R11_eq (z : At) (K : Exit → Sl → World → Prop) (ρ : Sl) (w : World) : sx z Tryd.prog 131 dispatcherlaw15_CollGrows_R11 K ρ w = dispatcherlaw15_CollGrows_R11_F z K ρ w := by kernel_rfl
noncomputable def dispatcherlaw15_CollGrows_R12_F (z : At) (K : Exit → Sl → World → Prop) (ρ : Sl) (w : World) : Prop :=
  BK Tryd.prog .add 3 (.tmp 96) (.const (Value.int .i64 1)) (ρ 16) (Value.int .i64 1) w fun x97 w => K .normal (up (up (up ρ 96 (ρ 16)) 97 x97) 16 x97) w
theorem dispatcherlaw15_CollGrows_R12_eq (z : At) (K : Exit → Sl → World → Prop) (ρ : Sl) (w : World) : sx z Tryd.prog 131 dispatcherlaw15_CollGrows_R12 K ρ w = dispatcherlaw15_CollGrows_R12_F z K ρ w := by kernel_rfl
noncomputable def dispatcherlaw15_CollGrows_R13_ops : Array Oper := opsOf dispatcherlaw15_CollGrows_R13
def dispatcherlaw15_CollGrows_R13_H (S : World → Prop) (K : Exit → Sl → World → Prop) (ρ : Sl) (w : World) : Prop :=
  HK Tryd.prog S (do pure (Next.value (← Instr.indexAt 22 (ρ 1) (ρ 16)))) fun x102 => HK Tryd.prog S (do pure (Next.value (← Instr.fieldAt 36 x102 0))) fun x103 => HK Tryd.prog S (do pure (Next.value (← Instr.fieldAt 32 x103 0))) fun x104 => HK Tryd.prog S (do pure (Next.value (← Instr.loadAt 9 x104))) fun x105 => HK Tryd.prog S (do pure (Next.value (← Instr.indexAt 22 (ρ 1) (ρ 16)))) fun x108 => HK Tryd.prog S (do pure (Next.value (← Instr.fieldAt 36 x108 1))) fun x109 => HK Tryd.prog S (do pure (Next.value (← Instr.loadAt 3 x109))) fun x110 => (CK Tryd.prog (Value.func (Fn.func 27) #[] #[]) [(ρ 5), x105, x110, (ρ 11)] w fun x112 w => S w ∧ (HK Tryd.prog S (do pure (Next.value (← Instr.extract x112 0))) fun x113 => HK Tryd.prog S (do pure (Next.value (← Instr.extract x112 1))) fun x114 => VK Tryd.prog (Instr.alloc 57 true (.tuple #[])) w fun x17 w => S w ∧ (UK Tryd.prog (Instr.storeAt 57 x17 x113) w fun _ w => S w ∧ (K Exit.normal (up (up (up (up (up (up (up (up (up (up (up (up (up (up (up (up (up (up (up ρ 99 (ρ 5)) 100 (ρ 1)) 101 (ρ 16)) 102 x102) 103 x103) 104 x104) 105 x105) 106 (ρ 1)) 107 (ρ 16)) 108 x108) 109 x109) 110 x110) 111 (ρ 11)) 112 x112) 98 x112) 113 x113) 114 x114) 17 x17) 18 x114) w)))) ∧ (VK Tryd.prog (Instr.alloc 57 true (.tuple #[])) w fun x17_1 w => S w ∧ (CK Tryd.prog (Value.func (Fn.func 27) #[] #[]) [(ρ 5), x105, x110, (ρ 11)] w fun x112_1 w => S w ∧ (HK Tryd.prog S (do pure (Next.value (← Instr.extract x112_1 0))) fun x113_1 => HK Tryd.prog S (do pure (Next.value (← Instr.extract x112_1 1))) fun x114_1 => UK Tryd.prog (Instr.storeAt 57 x17_1 x113_1) w fun _ w => S w ∧ (K Exit.normal (up (up (up (up (up (up (up (up (up (up (up (up (up (up (up (up (up (up (up ρ 99 (ρ 5)) 100 (ρ 1)) 101 (ρ 16)) 102 x102) 103 x103) 104 x104) 105 x105) 106 (ρ 1)) 107 (ρ 16)) 108 x108) 109 x109) 110 x110) 111 (ρ 11)) 17 x17_1) 112 x112_1) 98 x112_1) 113 x113_1) 114 x114_1) 18 x114_1) w))))
theorem dispatcherlaw15_CollGrows_R13_held {D : List Deferred} (S : World → Prop) {K : Exit → Sl → World → Prop} {ρ : Sl} {w : World} (hS : S { w with drawn := w.drawn + 1 }) (h : dispatcherlaw15_CollGrows_R13_H S K ρ { w with drawn := w.drawn + 1 }) : W ⟨none, D⟩ Tryd.prog 131 dispatcherlaw15_CollGrows_R13 K ρ w := by
  have e : dispatcherlaw15_CollGrows_R13 = .region (idOf dispatcherlaw15_CollGrows_R13) dispatcherlaw15_CollGrows_R13_ops true := by kernel_rfl
  have q : sxd Tryd.prog S dispatcherlaw15_CollGrows_R13_ops (K .normal) (Pd.take 0 (Pd.take 1 (Pd.take 2 (Pd.take 3 (Pd.take 4 (Pd.take 5 (Pd.take 6 (Pd.take 7 (Pd.take 8 (Pd.take 9 (Pd.take 10 (Pd.take 11 (Pd.take 12 (Pd.two false false 13 17 (Pd.take 14 (Pd.take 15 (Pd.take 16 (Pd.only false 17 (Pd.only false 18 (Pd.take 19 Pd.done)))))) (Pd.only false 13 (Pd.take 14 (Pd.take 15 (Pd.take 16 (Pd.only false 18 (Pd.take 19 Pd.done)))))))))))))))))))) ρ { w with drawn := w.drawn + 1 } = dispatcherlaw15_CollGrows_R13_H S K ρ { w with drawn := w.drawn + 1 } := by kernel_rfl
  rw [e]
  exact W_pland S (Pd.take 0 (Pd.take 1 (Pd.take 2 (Pd.take 3 (Pd.take 4 (Pd.take 5 (Pd.take 6 (Pd.take 7 (Pd.take 8 (Pd.take 9 (Pd.take 10 (Pd.take 11 (Pd.take 12 (Pd.two false false 13 17 (Pd.take 14 (Pd.take 15 (Pd.take 16 (Pd.only false 17 (Pd.only false 18 (Pd.take 19 Pd.done)))))) (Pd.only false 13 (Pd.take 14 (Pd.take 15 (Pd.take 16 (Pd.only false 18 (Pd.take 19 Pd.done)))))))))))))))))))) (by kernel_rfl) (by kernel_rfl) (by kernel_rfl) (by kernel_rfl) hS (Eq.mpr q h)
noncomputable def dispatcherlaw15_CollGrows_R14_F (z : At) (K : Exit → Sl → World → Prop) (ρ : Sl) (w : World) : Prop :=
  CondK (ρ 18) (VK Tryd.prog (Instr.loadAt 57 (ρ 17)) w fun x117 w => VK Tryd.prog (Instr.buildSlice 54 1 [(0, x117)].toArray) w fun x118 w => IK Tryd.prog .append #[54, 54] 54 [false, false] [(ρ 6), x118] w fun x119 w => VK Tryd.prog (Instr.buildSlice 30 1 [(0, (ρ 16))].toArray) w fun x122 w => IK Tryd.prog .append #[30, 30] 30 [false, false] [(ρ 7), x122] w fun x123 w => VK Tryd.prog (Instr.buildSlice 30 1 [(0, (ρ 11))].toArray) w fun x126 w => IK Tryd.prog .append #[30, 30] 30 [false, false] [(ρ 8), x126] w fun x127 w => K .normal (up (up (up (up (up (up (up (up (up (up (up (up (up (up (up (up ρ 115 (ρ 18)) 116 (ρ 6)) 117 x117) 118 x118) 119 x119) 120 (ρ 7)) 121 (ρ 16)) 122 x122) 123 x123) 124 (ρ 8)) 125 (ρ 11)) 126 x126) 127 x127) 6 x119) 7 x123) 8 x127) w) (K .normal (up ρ 115 (ρ 18)) w)
theorem dispatcherlaw15_CollGrows_R14_eq (z : At) (K : Exit → Sl → World → Prop) (ρ : Sl) (w : World) : sx z Tryd.prog 131 dispatcherlaw15_CollGrows_R14 K ρ w = dispatcherlaw15_CollGrows_R14_F z K ρ w := by kernel_rfl
noncomputable def dispatcherlaw15_CollGrows_F (a0 a1 : Value) (w : World) (R : Value → World → Prop) : Prop :=
  CK Tryd.prog (Value.func (Fn.func 26) #[] #[]) [] w fun x19 w => VK Tryd.prog (Op.unary UnOp.not x19) w fun x20 w => CondK x20 (R (Value.bool false) w) (CK Tryd.prog (Value.func (Fn.func 10) #[] #[]) [a1] w fun x22 w => CondK x22 (R (Value.bool true) w) (CK Tryd.prog (Value.func (Fn.func 11) #[] #[]) [a0] w fun x24 w => W fn_ Tryd.prog 131 (Code.loop dispatcherlaw15_CollGrows_L0) (blkK 0 (seqK (sx fn_ Tryd.prog 131 dispatcherlaw15_CollGrows_R1 (retK Tryd.prog [ResultVar.tmp 4] R)) (retK Tryd.prog [ResultVar.tmp 4] R))) (up (up (up (up (up (up (up (up (up (up (up (up (rho0 [a0, a1]) 4 (Value.bool false)) 19 x19) 20 x20) 21 a1) 22 x22) 23 a0) 24 x24) 5 x24) 6 (Value.slice none 0 0)) 7 (Value.slice none 0 0)) 8 (Value.slice none 0 0)) 9 (Value.int .i64 0)) w))
theorem dispatcherlaw15_CollGrows_eq (a0 a1 : Value) (w : World) (R : Value → World → Prop) : sx fn_ Tryd.prog 131 dispatcherlaw15_CollGrows_b (retK Tryd.prog Tryd.f5.results.toList R) (rho0 [a0, a1]) w = dispatcherlaw15_CollGrows_F a0 a1 w R := by kernel_rfl
theorem dispatcherlaw15_CollGrows_calls {a0 a1 : Value} {w : World} {R : Value → World → Prop} (h : dispatcherlaw15_CollGrows_F a0 a1 w R) : Calls Tryd.prog 5 #[a0, a1] w fun e w' => ∃ v, e = .returned v ∧ R v w' :=
  Go.X.calls_of_sx (n := 131) (c := dispatcherlaw15_CollGrows_b) Tryd.func5 (by kernel_rfl) (by kernel_rfl) (Nat.le_of_ble_eq_true rfl) (by kernel_rfl) (Eq.mpr (dispatcherlaw15_CollGrows_eq a0 a1 w R) h)
noncomputable def dispatcherlaw15_Great_b : Code := (Tryd.f10.body).getD .skip
noncomputable def dispatcherlaw15_Great_L0 : Code := cAt [1, 1, 0, 1, 0, 0] dispatcherlaw15_Great_b
noncomputable def dispatcherlaw15_Great_R1 : Code := cAt [1, 1, 1] dispatcherlaw15_Great_b
noncomputable def dispatcherlaw15_Great_L0_F (z : At) (K : Exit → Sl → World → Prop) (ρ : Sl) (w : World) : Prop :=
  IK Tryd.prog .len #[22] 3 [false] [(ρ 0)] w fun x9 w => BK Tryd.prog .lss 3 (.tmp 7) (.tmp 9) (ρ 3) x9 w fun x10 w => CondK x10 (VK Tryd.prog (Instr.indexAt 22 (ρ 0) (ρ 3)) w fun x15 w => VK Tryd.prog (Instr.fieldAt 36 x15 0) w fun x16 w => VK Tryd.prog (Instr.loadAt 32 x16) w fun x17 w => CK Tryd.prog (Value.func (Fn.func 33) #[] #[]) [x17] w fun x18 w => MG Tryd.prog x18 false (ρ 0) w fun x20 w => MG Tryd.prog x18 false (ρ 3) w fun x21 w => VG Tryd.prog x18 false (Instr.indexAt 22 x20 x21) w fun x22 w => VG Tryd.prog x18 false (Instr.fieldAt 36 x22 0) w fun x23 w => VG Tryd.prog x18 false (Instr.fieldAt 32 x23 1) w fun x24 w => VG Tryd.prog x18 false (Instr.loadAt 30 x24) w fun x25 w => IG Tryd.prog x18 false .len #[30] 3 [false] [x25] w fun x26 w => BG Tryd.prog x18 false .gtr 3 (.tmp 26) (.const (Value.int .i64 8)) x26 (Value.int .i64 8) w fun x27 w => PK Tryd.prog x18 (Value.bool true) x27 w fun x28 w => CondK x28 (K .ret (up (up (up (up (up (up (up (up (up (up (up (up (up (up (up (up (up (up (up (up (up ρ 7 (ρ 3)) 8 (ρ 0)) 9 x9) 10 x10) 13 (ρ 0)) 14 (ρ 3)) 15 x15) 16 x16) 17 x17) 18 x18) 19 x18) 20 x20) 21 x21) 22 x22) 23 x23) 24 x24) 25 x25) 26 x26) 27 x27) 28 x28) 2 (Value.bool true)) w) (BK Tryd.prog .add 3 (.tmp 11) (.const (Value.int .i64 1)) (ρ 3) (Value.int .i64 1) w fun x12 w => K .normal (up (up (up (up (up (up (up (up (up (up (up (up (up (up (up (up (up (up (up (up (up (up (up ρ 7 (ρ 3)) 8 (ρ 0)) 9 x9) 10 x10) 13 (ρ 0)) 14 (ρ 3)) 15 x15) 16 x16) 17 x17) 18 x18) 19 x18) 20 x20) 21 x21) 22 x22) 23 x23) 24 x24) 25 x25) 26 x26) 27 x27) 28 x28) 11 (ρ 3)) 12 x12) 3 x12) w)) (K (.exit 0) (up (up (up (up ρ 7 (ρ 3)) 8 (ρ 0)) 9 x9) 10 x10) w)
theorem dispatcherlaw15_Great_L0_eq (z : At) (K : Exit → Sl → World → Prop) (ρ : Sl) (w : World) : sx z Tryd.prog 29 dispatcherlaw15_Great_L0 K ρ w = dispatcherlaw15_Great_L0_F z K ρ w := by kernel_rfl
theorem dispatcherlaw15_Great_L0_ok : dstOk 29 dispatcherlaw15_Great_L0 = true := by kernel_rfl
noncomputable def dispatcherlaw15_Great_R1_F (z : At) (K : Exit → Sl → World → Prop) (ρ : Sl) (w : World) : Prop :=
  K .ret (up ρ 2 (Value.bool false)) w
theorem dispatcherlaw15_Great_R1_eq (z : At) (K : Exit → Sl → World → Prop) (ρ : Sl) (w : World) : sx z Tryd.prog 29 dispatcherlaw15_Great_R1 K ρ w = dispatcherlaw15_Great_R1_F z K ρ w := by kernel_rfl
noncomputable def dispatcherlaw15_Great_F (a0 : Value) (w : World) (R : Value → World → Prop) : Prop :=
  IK Tryd.prog .len #[22] 3 [false] [a0] w fun x5 w => BK Tryd.prog .gtr 3 (.tmp 5) (.const (Value.int .i64 80)) x5 (Value.int .i64 80) w fun x6 w => CondK x6 (R (Value.bool true) w) (W fn_ Tryd.prog 29 (Code.loop dispatcherlaw15_Great_L0) (blkK 0 (seqK (sx fn_ Tryd.prog 29 dispatcherlaw15_Great_R1 (retK Tryd.prog [ResultVar.tmp 2] R)) (retK Tryd.prog [ResultVar.tmp 2] R))) (up (up (up (up (up (rho0 [a0]) 2 (Value.bool false)) 4 a0) 5 x5) 6 x6) 3 (Value.int .i64 0)) w)
theorem dispatcherlaw15_Great_eq (a0 : Value) (w : World) (R : Value → World → Prop) : sx fn_ Tryd.prog 29 dispatcherlaw15_Great_b (retK Tryd.prog Tryd.f10.results.toList R) (rho0 [a0]) w = dispatcherlaw15_Great_F a0 w R := by kernel_rfl
theorem dispatcherlaw15_Great_calls {a0 : Value} {w : World} {R : Value → World → Prop} (h : dispatcherlaw15_Great_F a0 w R) : Calls Tryd.prog 10 #[a0] w fun e w' => ∃ v, e = .returned v ∧ R v w' :=
  Go.X.calls_of_sx (n := 29) (c := dispatcherlaw15_Great_b) Tryd.func10 (by kernel_rfl) (by kernel_rfl) (Nat.le_of_ble_eq_true rfl) (by kernel_rfl) (Eq.mpr (dispatcherlaw15_Great_eq a0 w R) h)
noncomputable def dispatcherlaw15_awake_b : Code := (Tryd.f26.body).getD .skip
noncomputable def dispatcherlaw15_awake_L0 : Code := cAt [1, 0, 1, 0, 0] dispatcherlaw15_awake_b
noncomputable def dispatcherlaw15_awake_R1 : Code := cAt [1, 1] dispatcherlaw15_awake_b
noncomputable def dispatcherlaw15_awake_R2 : Code := cAt [1, 0, 1, 0, 0, 1, 0, 0, 1, 1, 1, 0] dispatcherlaw15_awake_b
noncomputable def dispatcherlaw15_awake_R3 : Code := cAt [1, 0, 1, 0, 0, 1, 0, 0, 1, 1, 1, 1] dispatcherlaw15_awake_b
noncomputable def dispatcherlaw15_awake_R4 : Code := cAt [1, 0, 1, 0, 0, 1, 1] dispatcherlaw15_awake_b
noncomputable def dispatcherlaw15_awake_R5 : Code := cAt [1, 0, 1, 0, 0, 1, 0, 0, 1, 1, 1, 1, 1, 0] dispatcherlaw15_awake_b
noncomputable def dispatcherlaw15_awake_R6 : Code := cAt [1, 0, 1, 0, 0, 1, 0, 0, 1, 1, 1, 1, 1, 1] dispatcherlaw15_awake_b
noncomputable def dispatcherlaw15_awake_R7 : Code := cAt [1, 0, 1, 0, 0, 1, 0, 0, 1, 1, 1, 1, 1, 1, 1, 0] dispatcherlaw15_awake_b
noncomputable def dispatcherlaw15_awake_R8 : Code := cAt [1, 0, 1, 0, 0, 1, 0, 0, 1, 1, 1, 1, 1, 1, 1, 1] dispatcherlaw15_awake_b
noncomputable def dispatcherlaw15_awake_R9 : Code := cAt [1, 0, 1, 0, 0, 1, 0, 0, 1, 1, 1, 1, 1, 1, 1, 1, 1, 1, 0, 1] dispatcherlaw15_awake_b
noncomputable def dispatcherlaw15_awake_R10 : Code := cAt [1, 0, 1, 0, 0, 1, 0, 0, 1, 1, 1, 1, 1, 1, 1, 1, 1, 1, 1] dispatcherlaw15_awake_b
noncomputable def dispatcherlaw15_awake_R11 : Code := cAt [1, 0, 1, 0, 0, 1, 0, 0, 1, 1, 1, 1, 1, 1, 1, 1, 1, 1, 1, 1, 1, 1] dispatcherlaw15_awake_b
noncomputable def dispatcherlaw15_awake_L0_F (z : At) (K : Exit → Sl → World → Prop) (ρ : Sl) (w : World) : Prop :=
  BK Tryd.prog .lss 3 (.tmp 11) (.const (Value.int .i64 2)) (ρ 1) (Value.int .i64 2) w fun x12 w => CondK x12 (BK Tryd.prog .eql 3 (.tmp 15) (.const (Value.int .i64 1)) (ρ 1) (Value.int .i64 1) w fun x16 w => CK Tryd.prog (Value.func (Fn.func 11) #[] #[]) [x16] w fun x17 w => BK Tryd.prog .eql 24 (.tmp 18) (.const (Value.pointer none)) x17 (Value.pointer none) w fun x19 w => CondK x19 (K .ret (up (up (up (up (up (up (up (up (up ρ 11 (ρ 1)) 12 x12) 15 (ρ 1)) 16 x16) 17 x17) 2 x17) 18 x17) 19 x19) 0 (Value.bool false)) w) (CK Tryd.prog (Value.func (Fn.func 30) #[] #[]) [(Value.int .i64 3)] w fun x20 w => VK Tryd.prog (Instr.alloc 32 true (.tuple #[])) w fun x3 w => UK Tryd.prog (Instr.storeAt 32 x3 x20) w fun _ w => W z Tryd.prog 107 dispatcherlaw15_awake_R2 (seqK (sx z Tryd.prog 107 dispatcherlaw15_awake_R3 (blkK 1 (seqK (sx z Tryd.prog 107 dispatcherlaw15_awake_R4 K) K))) (blkK 1 (seqK (sx z Tryd.prog 107 dispatcherlaw15_awake_R4 K) K))) (up (up (up (up (up (up (up (up (up (up ρ 11 (ρ 1)) 12 x12) 15 (ρ 1)) 16 x16) 17 x17) 2 x17) 18 x17) 19 x19) 20 x20) 3 x3) w)) (K (.exit 0) (up (up ρ 11 (ρ 1)) 12 x12) w)
theorem dispatcherlaw15_awake_L0_eq (z : At) (K : Exit → Sl → World → Prop) (ρ : Sl) (w : World) : sx z Tryd.prog 107 dispatcherlaw15_awake_L0 K ρ w = dispatcherlaw15_awake_L0_F z K ρ w := by kernel_rfl
theorem dispatcherlaw15_awake_L0_ok : dstOk 107 dispatcherlaw15_awake_L0 = true := by kernel_rfl
noncomputable def dispatcherlaw15_awake_R1_F (z : At) (K : Exit → Sl → World → Prop) (ρ : Sl) (w : World) : Prop :=
  K .ret (up ρ 0 (Value.bool true)) w
theorem dispatcherlaw15_awake_R1_eq (z : At) (K : Exit → Sl → World → Prop) (ρ : Sl) (w : World) : sx z Tryd.prog 107 dispatcherlaw15_awake_R1 K ρ w = dispatcherlaw15_awake_R1_F z K ρ w := by kernel_rfl
noncomputable def dispatcherlaw15_awake_R2_ops : Array Oper := opsOf dispatcherlaw15_awake_R2
def dispatcherlaw15_awake_R2_H (S : World → Prop) (K : Exit → Sl → World → Prop) (ρ : Sl) (w : World) : Prop :=
  HK Tryd.prog S (do pure (Next.value (← Instr.loadAt 32 (ρ 3)))) fun x22_2 => CK Tryd.prog (Value.func (Fn.func 56) #[] #[]) [(Value.int IntKind.i64 5)] w fun x23_2 w => S w ∧ (CK Tryd.prog (Value.func (Fn.func 12) #[] #[]) [(ρ 2), x22_2, (Value.int IntKind.i64 0), x23_2] w fun x24_2 w => S w ∧ (K Exit.normal (up (up (up (up ρ 21 (ρ 2)) 22 x22_2) 23 x23_2) 24 x24_2) w))
theorem dispatcherlaw15_awake_R2_held {D : List Deferred} (S : World → Prop) {K : Exit → Sl → World → Prop} {ρ : Sl} {w : World} (hS : S { w with drawn := w.drawn + 1 }) (h : dispatcherlaw15_awake_R2_H S K ρ { w with drawn := w.drawn + 1 }) : W ⟨none, D⟩ Tryd.prog 107 dispatcherlaw15_awake_R2 K ρ w := by
  have e : dispatcherlaw15_awake_R2 = .region (idOf dispatcherlaw15_awake_R2) dispatcherlaw15_awake_R2_ops true := by kernel_rfl
  have q : sxh Tryd.prog S dispatcherlaw15_awake_R2_ops (K .normal) [(0, true), (1, true), (2, false), (3, false)] ρ { w with drawn := w.drawn + 1 } = dispatcherlaw15_awake_R2_H S K ρ { w with drawn := w.drawn + 1 } := by kernel_rfl
  rw [e]
  exact W_held S [(0, true), (1, true), (2, false), (3, false)] (by kernel_rfl) (by kernel_rfl) (by kernel_rfl) (by kernel_rfl) hS (Eq.mpr q h)
noncomputable def dispatcherlaw15_awake_R3_F (z : At) (K : Exit → Sl → World → Prop) (ρ : Sl) (w : World) : Prop :=
  CK Tryd.prog (Value.func (Fn.func 31) #[] #[]) [(ρ 2), (Value.string { data := #[] }), (Value.int .i64 0), (Value.int .i64 0)] w fun x26 w => W z Tryd.prog 107 dispatcherlaw15_awake_R5 (seqK (sx z Tryd.prog 107 dispatcherlaw15_awake_R6 K) K) (up (up (up ρ 25 (ρ 2)) 26 x26) 4 x26) w
theorem dispatcherlaw15_awake_R3_eq (z : At) (K : Exit → Sl → World → Prop) (ρ : Sl) (w : World) : sx z Tryd.prog 107 dispatcherlaw15_awake_R3 K ρ w = dispatcherlaw15_awake_R3_F z K ρ w := by kernel_rfl
noncomputable def dispatcherlaw15_awake_R4_F (z : At) (K : Exit → Sl → World → Prop) (ρ : Sl) (w : World) : Prop :=
  BK Tryd.prog .add 3 (.tmp 13) (.const (Value.int .i64 1)) (ρ 1) (Value.int .i64 1) w fun x14 w => K .normal (up (up (up ρ 13 (ρ 1)) 14 x14) 1 x14) w
theorem dispatcherlaw15_awake_R4_eq (z : At) (K : Exit → Sl → World → Prop) (ρ : Sl) (w : World) : sx z Tryd.prog 107 dispatcherlaw15_awake_R4 K ρ w = dispatcherlaw15_awake_R4_F z K ρ w := by kernel_rfl
noncomputable def dispatcherlaw15_awake_R5_ops : Array Oper := opsOf dispatcherlaw15_awake_R5
def dispatcherlaw15_awake_R5_H (S : World → Prop) (K : Exit → Sl → World → Prop) (ρ : Sl) (w : World) : Prop :=
  HK Tryd.prog S (do pure (Next.value (← Instr.loadAt 32 (ρ 3)))) fun x28_2 => CK Tryd.prog (Value.func (Fn.func 56) #[] #[]) [(Value.int IntKind.i64 7)] w fun x29_2 w => S w ∧ (CK Tryd.prog (Value.func (Fn.func 12) #[] #[]) [(ρ 2), x28_2, (Value.int IntKind.i64 1), x29_2] w fun x30_2 w => S w ∧ (K Exit.normal (up (up (up (up ρ 27 (ρ 2)) 28 x28_2) 29 x29_2) 30 x30_2) w))
theorem dispatcherlaw15_awake_R5_held {D : List Deferred} (S : World → Prop) {K : Exit → Sl → World → Prop} {ρ : Sl} {w : World} (hS : S { w with drawn := w.drawn + 1 }) (h : dispatcherlaw15_awake_R5_H S K ρ { w with drawn := w.drawn + 1 }) : W ⟨none, D⟩ Tryd.prog 107 dispatcherlaw15_awake_R5 K ρ w := by
  have e : dispatcherlaw15_awake_R5 = .region (idOf dispatcherlaw15_awake_R5) dispatcherlaw15_awake_R5_ops true := by kernel_rfl
  have q : sxh Tryd.prog S dispatcherlaw15_awake_R5_ops (K .normal) [(0, true), (1, true), (2, false), (3, false)] ρ { w with drawn := w.drawn + 1 } = dispatcherlaw15_awake_R5_H S K ρ { w with drawn := w.drawn + 1 } := by kernel_rfl
  rw [e]
  exact W_held S [(0, true), (1, true), (2, false), (3, false)] (by kernel_rfl) (by kernel_rfl) (by kernel_rfl) (by kernel_rfl) hS (Eq.mpr q h)
noncomputable def dispatcherlaw15_awake_R6_F (z : At) (K : Exit → Sl → World → Prop) (ρ : Sl) (w : World) : Prop :=
  CK Tryd.prog (Value.func (Fn.func 15) #[] #[]) [(ρ 2)] w fun x32 w => W z Tryd.prog 107 dispatcherlaw15_awake_R7 (seqK (sx z Tryd.prog 107 dispatcherlaw15_awake_R8 K) K) (up (up (up ρ 31 (ρ 2)) 32 x32) 5 x32) w
theorem dispatcherlaw15_awake_R6_eq (z : At) (K : Exit → Sl → World → Prop) (ρ : Sl) (w : World) : sx z Tryd.prog 107 dispatcherlaw15_awake_R6 K ρ w = dispatcherlaw15_awake_R6_F z K ρ w := by kernel_rfl
noncomputable def dispatcherlaw15_awake_R7_ops : Array Oper := opsOf dispatcherlaw15_awake_R7
def dispatcherlaw15_awake_R7_H (S : World → Prop) (K : Exit → Sl → World → Prop) (ρ : Sl) (w : World) : Prop :=
  HK Tryd.prog S (do pure (Next.value (← Instr.loadAt 32 (ρ 3)))) fun x34_2 => CK Tryd.prog (Value.func (Fn.func 56) #[] #[]) [(Value.int IntKind.i64 9)] w fun x35_2 w => S w ∧ (CK Tryd.prog (Value.func (Fn.func 12) #[] #[]) [(ρ 2), x34_2, (Value.int IntKind.i64 2), x35_2] w fun x36_2 w => S w ∧ (K Exit.normal (up (up (up (up ρ 33 (ρ 2)) 34 x34_2) 35 x35_2) 36 x36_2) w))
theorem dispatcherlaw15_awake_R7_held {D : List Deferred} (S : World → Prop) {K : Exit → Sl → World → Prop} {ρ : Sl} {w : World} (hS : S { w with drawn := w.drawn + 1 }) (h : dispatcherlaw15_awake_R7_H S K ρ { w with drawn := w.drawn + 1 }) : W ⟨none, D⟩ Tryd.prog 107 dispatcherlaw15_awake_R7 K ρ w := by
  have e : dispatcherlaw15_awake_R7 = .region (idOf dispatcherlaw15_awake_R7) dispatcherlaw15_awake_R7_ops true := by kernel_rfl
  have q : sxh Tryd.prog S dispatcherlaw15_awake_R7_ops (K .normal) [(0, true), (1, true), (2, false), (3, false)] ρ { w with drawn := w.drawn + 1 } = dispatcherlaw15_awake_R7_H S K ρ { w with drawn := w.drawn + 1 } := by kernel_rfl
  rw [e]
  exact W_held S [(0, true), (1, true), (2, false), (3, false)] (by kernel_rfl) (by kernel_rfl) (by kernel_rfl) (by kernel_rfl) hS (Eq.mpr q h)
noncomputable def dispatcherlaw15_awake_R8_F (z : At) (K : Exit → Sl → World → Prop) (ρ : Sl) (w : World) : Prop :=
  CK Tryd.prog (Value.func (Fn.func 27) #[] #[]) [(ρ 2), (Value.string { data := #[] }), (Value.int .i64 1), (Value.int .i64 0)] w fun x39 w => VK Tryd.prog (Instr.extract x39 0) w fun x40 w => VK Tryd.prog (Instr.extract x39 1) w fun x41 w => VK Tryd.prog (Instr.alloc 57 true (.tuple #[])) w fun x6 w => UK Tryd.prog (Instr.storeAt 57 x6 x40) w fun _ w => CK Tryd.prog (Value.func (Fn.func 27) #[] #[]) [(ρ 2), (Value.string { data := #[] }), (Value.int .i64 2), (Value.int .i64 0)] w fun x44 w => VK Tryd.prog (Instr.extract x44 0) w fun x45 w => VK Tryd.prog (Instr.extract x44 1) w fun x46 w => VK Tryd.prog (Instr.alloc 57 true (.tuple #[])) w fun x8 w => UK Tryd.prog (Instr.storeAt 57 x8 x45) w fun _ w => BK Tryd.prog .eql 3 (.tmp 48) (.const (Value.int .i64 1)) (ρ 1) (Value.int .i64 1) w fun x49 w => BK Tryd.prog .neq 4 (.tmp 47) (.tmp 49) (ρ 4) x49 w fun x50 w => MG Tryd.prog x50 false x41 w fun x52 w => VG Tryd.prog x50 false (Op.unary UnOp.not x52) w fun x53 w => PK Tryd.prog x50 (Value.bool true) x53 w fun x54 w => VG Tryd.prog x54 false (Instr.fieldAt 57 x6 0) w fun x56 w => VG Tryd.prog x54 false (Instr.loadAt 2 x56) w fun x57 w => BG Tryd.prog x54 false .neq 2 (.tmp 57) (.const (Value.int .i64 21)) x57 (Value.int .i64 21) w fun x58 w => PK Tryd.prog x54 (Value.bool true) x58 w fun x59 w => MG Tryd.prog x59 false x46 w fun x61 w => VG Tryd.prog x59 false (Op.unary UnOp.not x61) w fun x62 w => PK Tryd.prog x59 (Value.bool true) x62 w fun x63 w => VG Tryd.prog x63 false (Instr.fieldAt 57 x8 0) w fun x65 w => VG Tryd.prog x63 false (Instr.loadAt 2 x65) w fun x66 w => BG Tryd.prog x63 false .neq 2 (.tmp 66) (.const (Value.int .i64 0)) x66 (Value.int .i64 0) w fun x67 w => PK Tryd.prog x63 (Value.bool true) x67 w fun x68 w => MG Tryd.prog x68 false (ρ 5) w fun x70 w => BG Tryd.prog x68 false .eql 24 (.tmp 70) (.const (Value.pointer none)) x70 (Value.pointer none) w fun x71 w => PK Tryd.prog x68 (Value.bool true) x71 w fun x72 w => MG Tryd.prog x72 false (ρ 5) w fun x74 w => CG Tryd.prog x72 false (Value.func (Fn.func 31) #[] #[]) [x74, (Value.string { data := #[] }), (Value.int .i64 1), (Value.int .i64 0)] w fun x75 w => PK Tryd.prog x72 (Value.bool true) x75 w fun x76 w => sx z Tryd.prog 107 dispatcherlaw15_awake_R9 (seqK (sx z Tryd.prog 107 dispatcherlaw15_awake_R10 K) K) (up (up (up (up (up (up (up (up (up (up (up (up (up (up (up (up (up (up (up (up (up (up (up (up (up (up (up (up (up (up (up (up (up (up (up (up (up (up (up (up (up (up (up (up ρ 38 (ρ 2)) 39 x39) 37 x39) 40 x40) 41 x41) 6 x6) 7 x41) 43 (ρ 2)) 44 x44) 42 x44) 45 x45) 46 x46) 8 x8) 9 x46) 47 (ρ 4)) 48 (ρ 1)) 49 x49) 50 x50) 51 x50) 52 x52) 53 x53) 54 x54) 55 x54) 56 x56) 57 x57) 58 x58) 59 x59) 60 x59) 61 x61) 62 x62) 63 x63) 64 x63) 65 x65) 66 x66) 67 x67) 68 x68) 69 x68) 70 x70) 71 x71) 72 x72) 73 x72) 74 x74) 75 x75) 76 x76) w
theorem dispatcherlaw15_awake_R8_eq (z : At) (K : Exit → Sl → World → Prop) (ρ : Sl) (w : World) : sx z Tryd.prog 107 dispatcherlaw15_awake_R8 K ρ w = dispatcherlaw15_awake_R8_F z K ρ w := by kernel_rfl
noncomputable def dispatcherlaw15_awake_R9_F (z : At) (K : Exit → Sl → World → Prop) (ρ : Sl) (w : World) : Prop :=
  CondK (ρ 76) (K .ret (up ρ 0 (Value.bool false)) w) (K .normal ρ w)
theorem dispatcherlaw15_awake_R9_eq (z : At) (K : Exit → Sl → World → Prop) (ρ : Sl) (w : World) : sx z Tryd.prog 107 dispatcherlaw15_awake_R9 K ρ w = dispatcherlaw15_awake_R9_F z K ρ w := by kernel_rfl
noncomputable def dispatcherlaw15_awake_R10_F (z : At) (K : Exit → Sl → World → Prop) (ρ : Sl) (w : World) : Prop :=
  VK Tryd.prog (Instr.loadAt 32 (ρ 3)) w fun x78 w => VK Tryd.prog (Instr.build 34 [(0, (Value.int .u8 15))].toArray) w fun x79 w => CK Tryd.prog (Value.func (Fn.func 12) #[] #[]) [(ρ 5), x78, (Value.int .i64 2), x79] w fun x80 w => CK Tryd.prog (Value.func (Fn.func 24) #[] #[]) [(ρ 5)] w fun x82 w => IK Tryd.prog .len #[50] 3 [false] [x82] w fun x84 w => BK Tryd.prog .neq 3 (.tmp 84) (.const (Value.int .i64 1)) x84 (Value.int .i64 1) w fun x85 w => MG Tryd.prog x85 false x82 w fun x87 w => VG Tryd.prog x85 false (Instr.indexAt 50 x87 (Value.int .i64 0)) w fun x88 w => VG Tryd.prog x85 false (Instr.loadAt 9 x88) w fun x89 w => BG Tryd.prog x85 false .neq 9 (.tmp 89) (.const (Value.string { data := #[46, 48] })) x89 (Value.string { data := #[46, 48] }) w fun x90 w => PK Tryd.prog x85 (Value.bool true) x90 w fun x91 w => MG Tryd.prog x91 false (ρ 5) w fun x93 w => CG Tryd.prog x91 false (Value.func (Fn.func 31) #[] #[]) [x93, (Value.string { data := #[] }), (Value.int .i64 1), (Value.int .i64 0)] w fun x94 w => PK Tryd.prog x91 (Value.bool true) x94 w fun x95 w => MG Tryd.prog x95 false (ρ 5) w fun x97 w => CG Tryd.prog x95 false (Value.func (Fn.func 31) #[] #[]) [x97, (Value.string { data := #[] }), (Value.int .i64 2), (Value.int .i64 0)] w fun x98 w => PK Tryd.prog x95 (Value.bool true) x98 w fun x99 w => MG Tryd.prog x99 false (ρ 5) w fun x101 w => CG Tryd.prog x99 false (Value.func (Fn.func 31) #[] #[]) [x101, (Value.string { data := #[] }), (Value.int .i64 0), (Value.int .i64 0)] w fun x102 w => MG Tryd.prog x99 false (ρ 1) w fun x103 w => BG Tryd.prog x99 false .eql 3 (.tmp 103) (.const (Value.int .i64 1)) x103 (Value.int .i64 1) w fun x104 w => BG Tryd.prog x99 false .neq 4 (.tmp 102) (.tmp 104) x102 x104 w fun x105 w => PK Tryd.prog x99 (Value.bool true) x105 w fun x106 w => sx z Tryd.prog 107 dispatcherlaw15_awake_R11 K (up (up (up (up (up (up (up (up (up (up (up (up (up (up (up (up (up (up (up (up (up (up (up (up (up (up (up (up (up (up (up ρ 77 (ρ 5)) 78 x78) 79 x79) 80 x80) 81 (ρ 5)) 82 x82) 10 x82) 83 x82) 84 x84) 85 x85) 86 x85) 87 x87) 88 x88) 89 x89) 90 x90) 91 x91) 92 x91) 93 x93) 94 x94) 95 x95) 96 x95) 97 x97) 98 x98) 99 x99) 100 x99) 101 x101) 102 x102) 103 x103) 104 x104) 105 x105) 106 x106) w
theorem dispatcherlaw15_awake_R10_eq (z : At) (K : Exit → Sl → World → Prop) (ρ : Sl) (w : World) : sx z Tryd.prog 107 dispatcherlaw15_awake_R10 K ρ w = dispatcherlaw15_awake_R10_F z K ρ w := by kernel_rfl
noncomputable def dispatcherlaw15_awake_R11_F (z : At) (K : Exit → Sl → World → Prop) (ρ : Sl) (w : World) : Prop :=
  CondK (ρ 106) (K .ret (up ρ 0 (Value.bool false)) w) (K .normal ρ w)
theorem dispatcherlaw15_awake_R11_eq (z : At) (K : Exit → Sl → World → Prop) (ρ : Sl) (w : World) : sx z Tryd.prog 107 dispatcherlaw15_awake_R11 K ρ w = dispatcherlaw15_awake_R11_F z K ρ w := by kernel_rfl
noncomputable def dispatcherlaw15_awake_F (w : World) (R : Value → World → Prop) : Prop :=
  W fn_ Tryd.prog 107 (Code.loop dispatcherlaw15_awake_L0) (blkK 0 (seqK (sx fn_ Tryd.prog 107 dispatcherlaw15_awake_R1 (retK Tryd.prog [ResultVar.tmp 0] R)) (retK Tryd.prog [ResultVar.tmp 0] R))) (up (up (rho0 []) 0 (Value.bool false)) 1 (Value.int .i64 0)) w
theorem dispatcherlaw15_awake_calls {w : World} {R : Value → World → Prop} (h : dispatcherlaw15_awake_F  w R) : Calls Tryd.prog 26 #[] w fun e w' => ∃ v, e = .returned v ∧ R v w' :=
  Go.X.calls_eq (n := 107) (c := dispatcherlaw15_awake_b) (fn := Tryd.f26) (args := #[]) (F := dispatcherlaw15_awake_F  w R) (R := R) Tryd.func26 (by kernel_rfl) (by kernel_rfl) (Nat.le_of_ble_eq_true rfl) (by kernel_rfl) (by kernel_rfl) h
noncomputable def dispatcherref15_Same_b : Code := (Tryd.f28.body).getD .skip
noncomputable def dispatcherref15_Same_R0 : Code := cAt [1, 0, 1] dispatcherref15_Same_b
noncomputable def dispatcherref15_Same_R1 : Code := cAt [1, 1] dispatcherref15_Same_b
noncomputable def dispatcherref15_Same_L2 : Code := cAt [1, 1, 0, 1, 0, 0] dispatcherref15_Same_b
noncomputable def dispatcherref15_Same_R3 : Code := cAt [1, 1, 1] dispatcherref15_Same_b
noncomputable def dispatcherref15_Same_R4 : Code := cAt [1, 1, 0, 1, 0, 0, 1, 0, 0, 0] dispatcherref15_Same_b
noncomputable def dispatcherref15_Same_R5 : Code := cAt [1, 1, 0, 1, 0, 0, 1, 0, 0, 1] dispatcherref15_Same_b
noncomputable def dispatcherref15_Same_R6 : Code := cAt [1, 1, 0, 1, 0, 0, 1, 1] dispatcherref15_Same_b
noncomputable def dispatcherref15_Same_R0_F (z : At) (K : Exit → Sl → World → Prop) (ρ : Sl) (w : World) : Prop :=
  CondK (ρ 34) (K .ret (up ρ 4 (Value.bool false)) w) (K .normal ρ w)
theorem dispatcherref15_Same_R0_eq (z : At) (K : Exit → Sl → World → Prop) (ρ : Sl) (w : World) : sx z Tryd.prog 53 dispatcherref15_Same_R0 K ρ w = dispatcherref15_Same_R0_F z K ρ w := by kernel_rfl
noncomputable def dispatcherref15_Same_R1_F (z : At) (K : Exit → Sl → World → Prop) (ρ : Sl) (w : World) : Prop :=
  W z Tryd.prog 53 (Code.loop dispatcherref15_Same_L2) (blkK 0 (seqK (sx z Tryd.prog 53 dispatcherref15_Same_R3 K) K)) (up ρ 5 (Value.int .i64 0)) w
theorem dispatcherref15_Same_R1_eq (z : At) (K : Exit → Sl → World → Prop) (ρ : Sl) (w : World) : sx z Tryd.prog 53 dispatcherref15_Same_R1 K ρ w = dispatcherref15_Same_R1_F z K ρ w := by kernel_rfl
noncomputable def dispatcherref15_Same_L2_F (z : At) (K : Exit → Sl → World → Prop) (ρ : Sl) (w : World) : Prop :=
  VK Tryd.prog (Instr.fieldAt 57 (ρ 2) 1) w fun x36 w => VK Tryd.prog (Instr.loadAt 55 x36) w fun x37 w => IK Tryd.prog .len #[55] 3 [false] [x37] w fun x38 w => BK Tryd.prog .lss 3 (.tmp 35) (.tmp 38) (ρ 5) x38 w fun x39 w => CondK x39 (W z Tryd.prog 53 dispatcherref15_Same_R4 (seqK (sx z Tryd.prog 53 dispatcherref15_Same_R5 (blkK 1 (seqK (sx z Tryd.prog 53 dispatcherref15_Same_R6 K) K))) (blkK 1 (seqK (sx z Tryd.prog 53 dispatcherref15_Same_R6 K) K))) (up (up (up (up (up ρ 35 (ρ 5)) 36 x36) 37 x37) 38 x38) 39 x39) w) (K (.exit 0) (up (up (up (up (up ρ 35 (ρ 5)) 36 x36) 37 x37) 38 x38) 39 x39) w)
theorem dispatcherref15_Same_L2_eq (z : At) (K : Exit → Sl → World → Prop) (ρ : Sl) (w : World) : sx z Tryd.prog 53 dispatcherref15_Same_L2 K ρ w = dispatcherref15_Same_L2_F z K ρ w := by kernel_rfl
theorem dispatcherref15_Same_L2_ok : dstOk 53 dispatcherref15_Same_L2 = true := by kernel_rfl
noncomputable def dispatcherref15_Same_R3_F (z : At) (K : Exit → Sl → World → Prop) (ρ : Sl) (w : World) : Prop :=
  K .ret (up ρ 4 (Value.bool true)) w
theorem dispatcherref15_Same_R3_eq (z : At) (K : Exit → Sl → World → Prop) (ρ : Sl) (w : World) : sx z Tryd.prog 53 dispatcherref15_Same_R3 K ρ w = dispatcherref15_Same_R3_F z K ρ w := by kernel_rfl
noncomputable def dispatcherref15_Same_R4_ops : Array Oper := opsOf dispatcherref15_Same_R4
def dispatcherref15_Same_R4_Q (C : World → Prop) (K : Exit → Sl → World → Prop) (ρ : Sl) : Prop :=
  QK Tryd.prog C (do pure (Next.value (← Instr.fieldAt 57 (ρ 2) 1))) fun x42 => QK Tryd.prog C (do pure (Next.value (← Instr.loadAt 55 x42))) fun x43 => QK Tryd.prog C (do pure (Next.value (← Instr.indexAt 55 x43 (ρ 5)))) fun x45 => QK Tryd.prog C (do pure (Next.value (← Instr.loadAt 2 x45))) fun x46 => QK Tryd.prog C (do pure (Next.value (← Instr.fieldAt 57 (ρ 3) 1))) fun x47 => QK Tryd.prog C (do pure (Next.value (← Instr.loadAt 55 x47))) fun x48 => QK Tryd.prog C (do pure (Next.value (← Instr.indexAt 55 x48 (ρ 5)))) fun x50 => QK Tryd.prog C (do pure (Next.value (← Instr.loadAt 2 x50))) fun x51 => QK Tryd.prog C (do pure (Next.value (← (do eqGuard BinOp.neq 2 (Operand.tmp 46) (Operand.tmp 51) x46 x51; binOp BinOp.neq 2 x46 x51)))) fun x52 => ∀ w', C w' → K Exit.normal (up (up (up (up (up (up (up (up (up (up (up ρ 42 x42) 43 x43) 44 (ρ 5)) 45 x45) 46 x46) 47 x47) 48 x48) 49 (ρ 5)) 50 x50) 51 x51) 52 x52) w'
theorem dispatcherref15_Same_R4_quiet {D : List Deferred} (C : World → Prop) {K : Exit → Sl → World → Prop} {ρ : Sl} {w : World} (hC : C { w with drawn := w.drawn + 1 }) (h : dispatcherref15_Same_R4_Q C K ρ) : W ⟨none, D⟩ Tryd.prog 53 dispatcherref15_Same_R4 K ρ w := by
  have e : dispatcherref15_Same_R4 = .region (idOf dispatcherref15_Same_R4) dispatcherref15_Same_R4_ops true := by kernel_rfl
  have q : sxq Tryd.prog C dispatcherref15_Same_R4_ops (fun ρ' => ∀ w', C w' → K .normal ρ' w') dispatcherref15_Same_R4_ops.toList ρ = dispatcherref15_Same_R4_Q C K ρ := by kernel_rfl
  rw [e]
  exact W_quiet C (by kernel_rfl) (by kernel_rfl) (by kernel_rfl) hC (Eq.mpr q h)
noncomputable def dispatcherref15_Same_R5_F (z : At) (K : Exit → Sl → World → Prop) (ρ : Sl) (w : World) : Prop :=
  CondK (ρ 52) (K .ret (up ρ 4 (Value.bool false)) w) (K .normal ρ w)
theorem dispatcherref15_Same_R5_eq (z : At) (K : Exit → Sl → World → Prop) (ρ : Sl) (w : World) : sx z Tryd.prog 53 dispatcherref15_Same_R5 K ρ w = dispatcherref15_Same_R5_F z K ρ w := by kernel_rfl
noncomputable def dispatcherref15_Same_R6_F (z : At) (K : Exit → Sl → World → Prop) (ρ : Sl) (w : World) : Prop :=
  BK Tryd.prog .add 3 (.tmp 40) (.const (Value.int .i64 1)) (ρ 5) (Value.int .i64 1) w fun x41 w => K .normal (up (up (up ρ 40 (ρ 5)) 41 x41) 5 x41) w
theorem dispatcherref15_Same_R6_eq (z : At) (K : Exit → Sl → World → Prop) (ρ : Sl) (w : World) : sx z Tryd.prog 53 dispatcherref15_Same_R6 K ρ w = dispatcherref15_Same_R6_F z K ρ w := by kernel_rfl
noncomputable def dispatcherref15_Same_F (a0 a1 : Value) (w : World) (R : Value → World → Prop) : Prop :=
  VK Tryd.prog (Instr.box 57 a0) w fun x2 w => VK Tryd.prog (Instr.box 57 a1) w fun x3 w => VK Tryd.prog (Instr.fieldAt 57 x2 0) w fun x6 w => VK Tryd.prog (Instr.loadAt 2 x6) w fun x7 w => VK Tryd.prog (Instr.fieldAt 57 x3 0) w fun x8 w => VK Tryd.prog (Instr.loadAt 2 x8) w fun x9 w => BK Tryd.prog .neq 2 (.tmp 7) (.tmp 9) x7 x9 w fun x10 w => VG Tryd.prog x10 false (Instr.fieldAt 57 x2 3) w fun x12 w => VG Tryd.prog x10 false (Instr.loadAt 4 x12) w fun x13 w => VG Tryd.prog x10 false (Instr.fieldAt 57 x3 3) w fun x14 w => VG Tryd.prog x10 false (Instr.loadAt 4 x14) w fun x15 w => BG Tryd.prog x10 false .neq 4 (.tmp 13) (.tmp 15) x13 x15 w fun x16 w => PK Tryd.prog x10 (Value.bool true) x16 w fun x17 w => VG Tryd.prog x17 false (Instr.fieldAt 57 x2 2) w fun x19 w => VG Tryd.prog x17 false (Instr.loadAt 32 x19) w fun x20 w => VG Tryd.prog x17 false (Instr.fieldAt 57 x3 2) w fun x21 w => VG Tryd.prog x17 false (Instr.loadAt 32 x21) w fun x22 w => CG Tryd.prog x17 false (Value.func (Fn.func 42) #[] #[]) [x20, x22] w fun x23 w => VG Tryd.prog x17 false (Op.unary UnOp.not x23) w fun x24 w => PK Tryd.prog x17 (Value.bool true) x24 w fun x25 w => VG Tryd.prog x25 false (Instr.fieldAt 57 x2 1) w fun x27 w => VG Tryd.prog x25 false (Instr.loadAt 55 x27) w fun x28 w => IG Tryd.prog x25 false .len #[55] 3 [false] [x28] w fun x29 w => VG Tryd.prog x25 false (Instr.fieldAt 57 x3 1) w fun x30 w => VG Tryd.prog x25 false (Instr.loadAt 55 x30) w fun x31 w => IG Tryd.prog x25 false .len #[55] 3 [false] [x31] w fun x32 w => BG Tryd.prog x25 false .neq 3 (.tmp 29) (.tmp 32) x29 x32 w fun x33 w => PK Tryd.prog x25 (Value.bool true) x33 w fun x34 w => sx fn_ Tryd.prog 53 dispatcherref15_Same_R0 (seqK (sx fn_ Tryd.prog 53 dispatcherref15_Same_R1 (retK Tryd.prog [ResultVar.tmp 4] R)) (retK Tryd.prog [ResultVar.tmp 4] R)) (up (up (up (up (up (up (up (up (up (up (up (up (up (up (up (up (up (up (up (up (up (up (up (up (up (up (up (up (up (up (up (up (rho0 [a0, a1]) 2 x2) 3 x3) 4 (Value.bool false)) 6 x6) 7 x7) 8 x8) 9 x9) 10 x10) 11 x10) 12 x12) 13 x13) 14 x14) 15 x15) 16 x16) 17 x17) 18 x17) 19 x19) 20 x20) 21 x21) 22 x22) 23 x23) 24 x24) 25 x25) 26 x25) 27 x27) 28 x28) 29 x29) 30 x30) 31 x31) 32 x32) 33 x33) 34 x34) w
theorem dispatcherref15_Same_eq (a0 a1 : Value) (w : World) (R : Value → World → Prop) : sx fn_ Tryd.prog 53 dispatcherref15_Same_b (retK Tryd.prog Tryd.f28.results.toList R) (rho0 [a0, a1]) w = dispatcherref15_Same_F a0 a1 w R := by kernel_rfl
theorem dispatcherref15_Same_calls {a0 a1 : Value} {w : World} {R : Value → World → Prop} (h : dispatcherref15_Same_F a0 a1 w R) : Calls Tryd.prog 28 #[a0, a1] w fun e w' => ∃ v, e = .returned v ∧ R v w' :=
  Go.X.calls_of_sx (n := 53) (c := dispatcherref15_Same_b) Tryd.func28 (by kernel_rfl) (by kernel_rfl) (Nat.le_of_ble_eq_true rfl) (by kernel_rfl) (Eq.mpr (dispatcherref15_Same_eq a0 a1 w R) h)
noncomputable def dispatcherlaw15_ranks_b : Code := (Tryd.f30.body).getD .skip
noncomputable def dispatcherlaw15_ranks_F (a0 : Value) (w : World) (R : Value → World → Prop) : Prop :=
  VK Tryd.prog (Instr.alloc 32 true (.tuple #[])) w fun x2 w => CK Tryd.prog (Value.func (Fn.func 60) #[] #[]) [a0] w fun x7 w => VK Tryd.prog (Instr.extract x7 0) w fun x8 w => VK Tryd.prog (Instr.extract x7 1) w fun x9 w => VK Tryd.prog (Instr.alloc 32 true (.tuple #[])) w fun x3 w => UK Tryd.prog (Instr.storeAt 32 x3 x8) w fun _ w => VK Tryd.prog (Instr.loadAt 32 x3) w fun x10 w => UK Tryd.prog (Instr.storeAt 32 x2 x10) w fun _ w => ∃ x2_1, (do loadVar 32 (← asAddr x2) : Sem Value).run Tryd.prog w = .ok x2_1 w ∧ R x2_1 w
theorem dispatcherlaw15_ranks_eq (a0 : Value) (w : World) (R : Value → World → Prop) : sx fn_ Tryd.prog 11 dispatcherlaw15_ranks_b (retK Tryd.prog Tryd.f30.results.toList R) (rho0 [a0]) w = dispatcherlaw15_ranks_F a0 w R := by kernel_rfl
theorem dispatcherlaw15_ranks_calls {a0 : Value} {w : World} {R : Value → World → Prop} (h : dispatcherlaw15_ranks_F a0 w R) : Calls Tryd.prog 30 #[a0] w fun e w' => ∃ v, e = .returned v ∧ R v w' :=
  Go.X.calls_of_sx (n := 11) (c := dispatcherlaw15_ranks_b) Tryd.func30 (by kernel_rfl) (by kernel_rfl) (Nat.le_of_ble_eq_true rfl) (by kernel_rfl) (Eq.mpr (dispatcherlaw15_ranks_eq a0 w R) h)
noncomputable def dispatcherlaw11_Great_b : Code := (Tryd.f33.body).getD .skip
noncomputable def dispatcherlaw11_Great_F (a0 : Value) (w : World) (R : Value → World → Prop) : Prop :=
  VK Tryd.prog (Instr.box 32 a0) w fun x1 w => VK Tryd.prog (Instr.fieldAt 32 x1 1) w fun x3 w => VK Tryd.prog (Instr.loadAt 30 x3) w fun x4 w => IK Tryd.prog .len #[30] 3 [false] [x4] w fun x5 w => BK Tryd.prog .gtr 3 (.tmp 5) (.const (Value.int .i64 80)) x5 (Value.int .i64 80) w fun x6 w => VG Tryd.prog x6 false (Instr.fieldAt 32 x1 0) w fun x8 w => VG Tryd.prog x6 false (Instr.loadAt 9 x8) w fun x9 w => IG Tryd.prog x6 false .len #[9] 3 [false] [x9] w fun x10 w => BG Tryd.prog x6 false .gtr 3 (.tmp 10) (.const (Value.int .i64 200)) x10 (Value.int .i64 200) w fun x11 w => PK Tryd.prog x6 (Value.bool true) x11 w fun x12 w => R x12 w
theorem dispatcherlaw11_Great_eq (a0 : Value) (w : World) (R : Value → World → Prop) : sx fn_ Tryd.prog 13 dispatcherlaw11_Great_b (retK Tryd.prog Tryd.f33.results.toList R) (rho0 [a0]) w = dispatcherlaw11_Great_F a0 w R := by kernel_rfl
theorem dispatcherlaw11_Great_calls {a0 : Value} {w : World} {R : Value → World → Prop} (h : dispatcherlaw11_Great_F a0 w R) : Calls Tryd.prog 33 #[a0] w fun e w' => ∃ v, e = .returned v ∧ R v w' :=
  Go.X.calls_of_sx (n := 13) (c := dispatcherlaw11_Great_b) Tryd.func33 (by kernel_rfl) (by kernel_rfl) (Nat.le_of_ble_eq_true rfl) (by kernel_rfl) (Eq.mpr (dispatcherlaw11_Great_eq a0 w R) h)
noncomputable def dispatcherref11_Same_b : Code := (Tryd.f42.body).getD .skip
noncomputable def dispatcherref11_Same_F (a0 a1 : Value) (w : World) (R : Value → World → Prop) : Prop :=
  VK Tryd.prog (Instr.box 32 a0) w fun x2 w => VK Tryd.prog (Instr.box 32 a1) w fun x3 w => VK Tryd.prog (Instr.fieldAt 32 x2 0) w fun x5 w => VK Tryd.prog (Instr.loadAt 9 x5) w fun x6 w => VK Tryd.prog (Instr.fieldAt 32 x3 0) w fun x7 w => VK Tryd.prog (Instr.loadAt 9 x7) w fun x8 w => BK Tryd.prog .eql 9 (.tmp 6) (.tmp 8) x6 x8 w fun x9 w => VG Tryd.prog x9 true (Instr.fieldAt 32 x2 1) w fun x11 w => VG Tryd.prog x9 true (Instr.loadAt 30 x11) w fun x12 w => VG Tryd.prog x9 true (Instr.fieldAt 32 x3 1) w fun x13 w => VG Tryd.prog x9 true (Instr.loadAt 30 x13) w fun x14 w => CG Tryd.prog x9 true (Value.func (Fn.func 63) #[] #[]) [x12, x14] w fun x15 w => PK Tryd.prog x9 x15 (Value.bool false) w fun x16 w => R x16 w
theorem dispatcherref11_Same_eq (a0 a1 : Value) (w : World) (R : Value → World → Prop) : sx fn_ Tryd.prog 17 dispatcherref11_Same_b (retK Tryd.prog Tryd.f42.results.toList R) (rho0 [a0, a1]) w = dispatcherref11_Same_F a0 a1 w R := by kernel_rfl
theorem dispatcherref11_Same_calls {a0 a1 : Value} {w : World} {R : Value → World → Prop} (h : dispatcherref11_Same_F a0 a1 w R) : Calls Tryd.prog 42 #[a0, a1] w fun e w' => ∃ v, e = .returned v ∧ R v w' :=
  Go.X.calls_of_sx (n := 17) (c := dispatcherref11_Same_b) Tryd.func42 (by kernel_rfl) (by kernel_rfl) (Nat.le_of_ble_eq_true rfl) (by kernel_rfl) (Eq.mpr (dispatcherref11_Same_eq a0 a1 w R) h)
noncomputable def dispatcherlaw15_reduce_b : Code := (Tryd.f56.body).getD .skip
noncomputable def dispatcherlaw15_reduce_F (a0 : Value) (w : World) (R : Value → World → Prop) : Prop :=
  VK Tryd.prog (Instr.alloc 34 true (.tuple #[])) w fun x2 w => VK Tryd.prog (Instr.build 34 [(0, (Value.int .u8 17)), (1, (Value.int .i64 1)), (3, a0)].toArray) w fun x4 w => UK Tryd.prog (Instr.storeAt 34 x2 x4) w fun _ w => ∃ x2_1, (do loadVar 34 (← asAddr x2) : Sem Value).run Tryd.prog w = .ok x2_1 w ∧ R x2_1 w
theorem dispatcherlaw15_reduce_eq (a0 : Value) (w : World) (R : Value → World → Prop) : sx fn_ Tryd.prog 5 dispatcherlaw15_reduce_b (retK Tryd.prog Tryd.f56.results.toList R) (rho0 [a0]) w = dispatcherlaw15_reduce_F a0 w R := by kernel_rfl
theorem dispatcherlaw15_reduce_calls {a0 : Value} {w : World} {R : Value → World → Prop} (h : dispatcherlaw15_reduce_F a0 w R) : Calls Tryd.prog 56 #[a0] w fun e w' => ∃ v, e = .returned v ∧ R v w' :=
  Go.X.calls_of_sx (n := 5) (c := dispatcherlaw15_reduce_b) Tryd.func56 (by kernel_rfl) (by kernel_rfl) (Nat.le_of_ble_eq_true rfl) (by kernel_rfl) (Eq.mpr (dispatcherlaw15_reduce_eq a0 w R) h)
noncomputable def dispatcherref11_World_b : Code := (Tryd.f60.body).getD .skip
noncomputable def dispatcherref11_World_L0 : Code := cAt [1, 1, 1, 0, 1, 0, 0] dispatcherref11_World_b
noncomputable def dispatcherref11_World_R1 : Code := cAt [1, 1, 1, 1] dispatcherref11_World_b
noncomputable def dispatcherref11_World_L0_F (z : At) (K : Exit → Sl → World → Prop) (ρ : Sl) (w : World) : Prop :=
  BK Tryd.prog .lss 3 (.tmp 14) (.tmp 15) (ρ 5) (ρ 0) w fun x16 w => CondK x16 (VK Tryd.prog (Instr.fieldAt 32 (ρ 4) 1) w fun x19 w => VK Tryd.prog (Instr.loadAt 30 x19) w fun x20 w => VK Tryd.prog (Instr.buildSlice 30 1 [(0, (ρ 5))].toArray) w fun x22 w => IK Tryd.prog .append #[30, 30] 30 [false, false] [x20, x22] w fun x23 w => VK Tryd.prog (Instr.fieldAt 32 (ρ 4) 1) w fun x24 w => UK Tryd.prog (Instr.storeAt 30 x24 x23) w fun _ w => BK Tryd.prog .add 3 (.tmp 17) (.const (Value.int .i64 1)) (ρ 5) (Value.int .i64 1) w fun x18 w => K .normal (up (up (up (up (up (up (up (up (up (up (up (up ρ 14 (ρ 5)) 15 (ρ 0)) 16 x16) 19 x19) 20 x20) 21 (ρ 5)) 22 x22) 23 x23) 24 x24) 17 (ρ 5)) 18 x18) 5 x18) w) (K (.exit 0) (up (up (up ρ 14 (ρ 5)) 15 (ρ 0)) 16 x16) w)
theorem dispatcherref11_World_L0_eq (z : At) (K : Exit → Sl → World → Prop) (ρ : Sl) (w : World) : sx z Tryd.prog 26 dispatcherref11_World_L0 K ρ w = dispatcherref11_World_L0_F z K ρ w := by kernel_rfl
theorem dispatcherref11_World_L0_ok : dstOk 26 dispatcherref11_World_L0 = true := by kernel_rfl
noncomputable def dispatcherref11_World_R1_F (z : At) (K : Exit → Sl → World → Prop) (ρ : Sl) (w : World) : Prop :=
  VK Tryd.prog (Instr.loadAt 32 (ρ 4)) w fun x25 w => UK Tryd.prog (Instr.storeAt 32 (ρ 2) x25) w fun _ w => K .ret (up (up ρ 25 x25) 3 (Value.int .i64 0)) w
theorem dispatcherref11_World_R1_eq (z : At) (K : Exit → Sl → World → Prop) (ρ : Sl) (w : World) : sx z Tryd.prog 26 dispatcherref11_World_R1 K ρ w = dispatcherref11_World_R1_F z K ρ w := by kernel_rfl
noncomputable def dispatcherref11_World_F (a0 : Value) (w : World) (R : Value → World → Prop) : Prop :=
  VK Tryd.prog (Instr.alloc 32 true (.tuple #[])) w fun x2 w => BK Tryd.prog .lss 3 (.tmp 6) (.const (Value.int .i64 1)) a0 (Value.int .i64 1) w fun x7 w => MG Tryd.prog x7 false a0 w fun x9 w => BG Tryd.prog x7 false .gtr 3 (.tmp 9) (.const (Value.int .i64 64)) x9 (Value.int .i64 64) w fun x10 w => PK Tryd.prog x7 (Value.bool true) x10 w fun x11 w => CondK x11 (VK Tryd.prog (Instr.build 32 [].toArray) w fun x12 w => UK Tryd.prog (Instr.storeAt 32 x2 x12) w fun _ w => ∃ x2_1, (do loadVar 32 (← asAddr x2) : Sem Value).run Tryd.prog w = .ok x2_1 w ∧ R (Value.tuple #[x2_1, (Value.int .i64 2)]) w) (VK Tryd.prog (Instr.build 32 [].toArray) w fun x13 w => VK Tryd.prog (Instr.alloc 32 true (.tuple #[])) w fun x4 w => UK Tryd.prog (Instr.storeAt 32 x4 x13) w fun _ w => W fn_ Tryd.prog 26 (Code.loop dispatcherref11_World_L0) (blkK 0 (seqK (sx fn_ Tryd.prog 26 dispatcherref11_World_R1 (retK Tryd.prog [ResultVar.cell 2 32, ResultVar.tmp 3] R)) (retK Tryd.prog [ResultVar.cell 2 32, ResultVar.tmp 3] R))) (up (up (up (up (up (up (up (up (up (up (up (rho0 [a0]) 2 x2) 3 (Value.int .i64 0)) 6 a0) 7 x7) 8 x7) 9 x9) 10 x10) 11 x11) 13 x13) 4 x4) 5 (Value.int .i64 0)) w)
theorem dispatcherref11_World_eq (a0 : Value) (w : World) (R : Value → World → Prop) : sx fn_ Tryd.prog 26 dispatcherref11_World_b (retK Tryd.prog Tryd.f60.results.toList R) (rho0 [a0]) w = dispatcherref11_World_F a0 w R := by kernel_rfl
theorem dispatcherref11_World_calls {a0 : Value} {w : World} {R : Value → World → Prop} (h : dispatcherref11_World_F a0 w R) : Calls Tryd.prog 60 #[a0] w fun e w' => ∃ v, e = .returned v ∧ R v w' :=
  Go.X.calls_of_sx (n := 26) (c := dispatcherref11_World_b) Tryd.func60 (by kernel_rfl) (by kernel_rfl) (Nat.le_of_ble_eq_true rfl) (by kernel_rfl) (Eq.mpr (dispatcherref11_World_eq a0 w R) h)
noncomputable def dispatcherref11_Ints_b : Code := (Tryd.f63.body).getD .skip
noncomputable def dispatcherref11_Ints_L0 : Code := cAt [1, 1, 0, 1, 0, 0] dispatcherref11_Ints_b
noncomputable def dispatcherref11_Ints_R1 : Code := cAt [1, 1, 1] dispatcherref11_Ints_b
noncomputable def dispatcherref11_Ints_R2 : Code := cAt [1, 1, 0, 1, 0, 0, 1, 0, 0, 0] dispatcherref11_Ints_b
noncomputable def dispatcherref11_Ints_R3 : Code := cAt [1, 1, 0, 1, 0, 0, 1, 0, 0, 1] dispatcherref11_Ints_b
noncomputable def dispatcherref11_Ints_R4 : Code := cAt [1, 1, 0, 1, 0, 0, 1, 1] dispatcherref11_Ints_b
noncomputable def dispatcherref11_Ints_L0_F (z : At) (K : Exit → Sl → World → Prop) (ρ : Sl) (w : World) : Prop :=
  IK Tryd.prog .len #[30] 3 [false] [(ρ 0)] w fun x13 w => BK Tryd.prog .lss 3 (.tmp 11) (.tmp 13) (ρ 5) x13 w fun x14 w => CondK x14 (W z Tryd.prog 26 dispatcherref11_Ints_R2 (seqK (sx z Tryd.prog 26 dispatcherref11_Ints_R3 (blkK 1 (seqK (sx z Tryd.prog 26 dispatcherref11_Ints_R4 K) K))) (blkK 1 (seqK (sx z Tryd.prog 26 dispatcherref11_Ints_R4 K) K))) (up (up (up (up ρ 11 (ρ 5)) 12 (ρ 0)) 13 x13) 14 x14) w) (K (.exit 0) (up (up (up (up ρ 11 (ρ 5)) 12 (ρ 0)) 13 x13) 14 x14) w)
theorem dispatcherref11_Ints_L0_eq (z : At) (K : Exit → Sl → World → Prop) (ρ : Sl) (w : World) : sx z Tryd.prog 26 dispatcherref11_Ints_L0 K ρ w = dispatcherref11_Ints_L0_F z K ρ w := by kernel_rfl
theorem dispatcherref11_Ints_L0_ok : dstOk 26 dispatcherref11_Ints_L0 = true := by kernel_rfl
noncomputable def dispatcherref11_Ints_R1_F (z : At) (K : Exit → Sl → World → Prop) (ρ : Sl) (w : World) : Prop :=
  K .ret (up ρ 4 (Value.bool true)) w
theorem dispatcherref11_Ints_R1_eq (z : At) (K : Exit → Sl → World → Prop) (ρ : Sl) (w : World) : sx z Tryd.prog 26 dispatcherref11_Ints_R1 K ρ w = dispatcherref11_Ints_R1_F z K ρ w := by kernel_rfl
noncomputable def dispatcherref11_Ints_R2_ops : Array Oper := opsOf dispatcherref11_Ints_R2
def dispatcherref11_Ints_R2_Q (C : World → Prop) (K : Exit → Sl → World → Prop) (ρ : Sl) : Prop :=
  QK Tryd.prog C (do pure (Next.value (← Instr.indexAt 30 (ρ 0) (ρ 5)))) fun x19 => QK Tryd.prog C (do pure (Next.value (← Instr.loadAt 3 x19))) fun x20 => QK Tryd.prog C (do pure (Next.value (← Instr.indexAt 30 (ρ 1) (ρ 5)))) fun x23 => QK Tryd.prog C (do pure (Next.value (← Instr.loadAt 3 x23))) fun x24 => QK Tryd.prog C (do pure (Next.value (← (do eqGuard BinOp.neq 3 (Operand.tmp 20) (Operand.tmp 24) x20 x24; binOp BinOp.neq 3 x20 x24)))) fun x25 => ∀ w', C w' → K Exit.normal (up (up (up (up (up (up (up (up (up ρ 17 (ρ 0)) 18 (ρ 5)) 19 x19) 20 x20) 21 (ρ 1)) 22 (ρ 5)) 23 x23) 24 x24) 25 x25) w'
theorem dispatcherref11_Ints_R2_quiet {D : List Deferred} (C : World → Prop) {K : Exit → Sl → World → Prop} {ρ : Sl} {w : World} (hC : C { w with drawn := w.drawn + 1 }) (h : dispatcherref11_Ints_R2_Q C K ρ) : W ⟨none, D⟩ Tryd.prog 26 dispatcherref11_Ints_R2 K ρ w := by
  have e : dispatcherref11_Ints_R2 = .region (idOf dispatcherref11_Ints_R2) dispatcherref11_Ints_R2_ops true := by kernel_rfl
  have q : sxq Tryd.prog C dispatcherref11_Ints_R2_ops (fun ρ' => ∀ w', C w' → K .normal ρ' w') dispatcherref11_Ints_R2_ops.toList ρ = dispatcherref11_Ints_R2_Q C K ρ := by kernel_rfl
  rw [e]
  exact W_quiet C (by kernel_rfl) (by kernel_rfl) (by kernel_rfl) hC (Eq.mpr q h)
noncomputable def dispatcherref11_Ints_R3_F (z : At) (K : Exit → Sl → World → Prop) (ρ : Sl) (w : World) : Prop :=
  CondK (ρ 25) (K .ret (up ρ 4 (Value.bool false)) w) (K .normal ρ w)
theorem dispatcherref11_Ints_R3_eq (z : At) (K : Exit → Sl → World → Prop) (ρ : Sl) (w : World) : sx z Tryd.prog 26 dispatcherref11_Ints_R3 K ρ w = dispatcherref11_Ints_R3_F z K ρ w := by kernel_rfl
noncomputable def dispatcherref11_Ints_R4_F (z : At) (K : Exit → Sl → World → Prop) (ρ : Sl) (w : World) : Prop :=
  BK Tryd.prog .add 3 (.tmp 15) (.const (Value.int .i64 1)) (ρ 5) (Value.int .i64 1) w fun x16 w => K .normal (up (up (up ρ 15 (ρ 5)) 16 x16) 5 x16) w
theorem dispatcherref11_Ints_R4_eq (z : At) (K : Exit → Sl → World → Prop) (ρ : Sl) (w : World) : sx z Tryd.prog 26 dispatcherref11_Ints_R4 K ρ w = dispatcherref11_Ints_R4_F z K ρ w := by kernel_rfl
noncomputable def dispatcherref11_Ints_F (a0 a1 : Value) (w : World) (R : Value → World → Prop) : Prop :=
  IK Tryd.prog .len #[30] 3 [false] [a0] w fun x7 w => IK Tryd.prog .len #[30] 3 [false] [a1] w fun x9 w => BK Tryd.prog .neq 3 (.tmp 7) (.tmp 9) x7 x9 w fun x10 w => CondK x10 (R (Value.bool false) w) (W fn_ Tryd.prog 26 (Code.loop dispatcherref11_Ints_L0) (blkK 0 (seqK (sx fn_ Tryd.prog 26 dispatcherref11_Ints_R1 (retK Tryd.prog [ResultVar.tmp 4] R)) (retK Tryd.prog [ResultVar.tmp 4] R))) (up (up (up (up (up (up (up (rho0 [a0, a1]) 4 (Value.bool false)) 6 a0) 7 x7) 8 a1) 9 x9) 10 x10) 5 (Value.int .i64 0)) w)
theorem dispatcherref11_Ints_eq (a0 a1 : Value) (w : World) (R : Value → World → Prop) : sx fn_ Tryd.prog 26 dispatcherref11_Ints_b (retK Tryd.prog Tryd.f63.results.toList R) (rho0 [a0, a1]) w = dispatcherref11_Ints_F a0 a1 w R := by kernel_rfl
theorem dispatcherref11_Ints_calls {a0 a1 : Value} {w : World} {R : Value → World → Prop} (h : dispatcherref11_Ints_F a0 a1 w R) : Calls Tryd.prog 63 #[a0, a1] w fun e w' => ∃ v, e = .returned v ∧ R v w' :=
  Go.X.calls_of_sx (n := 26) (c := dispatcherref11_Ints_b) Tryd.func63 (by kernel_rfl) (by kernel_rfl) (Nat.le_of_ble_eq_true rfl) (by kernel_rfl) (Eq.mpr (dispatcherref11_Ints_eq a0 a1 w R) h)
end Go.Proofs.YtandbmnhghmcgaaDoor.XG
set_option linter.unusedVariables false
set_option linter.unusedSimpArgs false
set_option maxRecDepth 8000
namespace Go.Proofs.YtandbmnhghmcgaaDoor.Col
open Go Go.X Go.RowKit Go.Proofs.YtandbmnhghmcgaaDoor.XF Go.Proofs.YtandbmnhghmcgaaDoor.XG Go.Proofs.YtandbmnhghmcgaaDoor.XK
section
variable {w : World}
theorem Ints_ok {v u : Value} {a b : List Int} (ha : RR w v a) (hb : RR w u b) (hl : a.length ≤ maxLen) : Rt Tryd.prog 63 #[v, u] w fun x w' => x = .bool (decide (a = b)) ∧ Mod none_ w w' := by
  have hl' : a.length ≤ 9223372036854775807 := hl
  refine dispatcherref11_Ints_calls ?_
  unfold dispatcherref11_Ints_F
  obtain ⟨A, c, es, _⟩ := reads_cap ha
  obtain ⟨A2, c2, es2, _⟩ := reads_cap hb
  rw [es, len_sl vIs, ← es, es2, len_sl vIs, ← es2, BK_neq]
  by_cases hlen : a.length = b.length
  · rw [show ((a.length : Int) != (b.length : Int)) = false by rw [hlen]; simp]
    refine condF ?_
    refine W_loop dispatcherref11_Ints_L0_ok (fun ρ w' => ∃ i : Nat, i ≤ a.length ∧ ρ 5 = .int .i64 i ∧ ρ 0 = v ∧ ρ 1 = u ∧ a.take i = b.take i ∧ Mod none_ w w') (fun ρ _ => a.length - (intOf (ρ 5)).toNat)
      ⟨0, Nat.zero_le _, rfl, rfl, rfl, by simp, Mod.refl _ _⟩ ?_
    rintro ρ w1 ⟨i, hi, e5, e0, e1, heq, hm⟩
    rw [dispatcherref11_Ints_L0_eq]; unfold dispatcherref11_Ints_L0_F
    rw [e5, e0, es, len_sl vIs, ← es, BK_lss]
    by_cases hlt : i < a.length
    · rw [decide_eq_true (by omega)]
      refine condT ?_
      have hx : a[i]? = some a[i] := List.getElem?_eq_getElem hlt
      have hy : b[i]? = some b[i] := List.getElem?_eq_getElem (by omega)
      have ta : a.take (i + 1) = a.take i ++ [a[i]] := by rw [List.take_add_one, hx]; rfl
      have tb : b.take (i + 1) = b.take i ++ [b[i]] := by rw [List.take_add_one, hy]; rfl
      generalize a[i] = x at *
      generalize b[i] = y at *
      obtain ⟨p1, r1, l1⟩ := ixR ha hx
      obtain ⟨p2, r2, l2⟩ := ixR hb hy
      refine dispatcherref11_Ints_R2_quiet (D := []) (fun w' => Mod none_ w w') (hm.trans ((Mod.refl _ w1).drawn _)) ?_
      unfold dispatcherref11_Ints_R2_Q
      simp only [sq_n, sq_x, sq_r, bk_n, bk_r, bk_x, rt_r, rt_n, rs_0, rs_t, pk_1, pk_2, up_at, reduceIte, Nat.reduceEqDiff, e0, e1, e5]
      refine QV_of (fun w' _ => r1 w') (QV_of (fun w' hw => l1 w' hw) (QV_of (fun w' _ => r2 w') (QV_of (fun w' hw => l2 w' hw) ?_)))
      refine Qneq ?_
      intro w' hw
      try rw [sq_n]
      rw [dispatcherref11_Ints_R3_eq]; unfold dispatcherref11_Ints_R3_F
      simp only [sq_n, sq_x, sq_r, bk_n, bk_r, bk_x, rt_r, rt_n, rs_0, rs_t, pk_1, pk_2, up_at, reduceIte, Nat.reduceEqDiff]
      refine caseC (fun q => ?_) (fun q => ?_)
      · refine ⟨?_, hw⟩
        have hne : a ≠ b := fun z => by
          rw [z, hy] at hx
          have : x ≠ y := by simpa using q
          exact this (Option.some.inj hx).symm
        rw [decide_eq_false hne]
        try rfl
      · have hxy : x = y := by simpa using q
        try rw [bk_n, sq_n]
        rw [dispatcherref11_Ints_R4_eq]; unfold dispatcherref11_Ints_R4_F
        simp only [sq_n, sq_x, sq_r, bk_n, bk_r, bk_x, rt_r, rt_n, rs_0, rs_t, pk_1, pk_2, up_at, reduceIte, Nat.reduceEqDiff, e5]
        rw [BK_add, wrap_i (by omega) (by omega)]
        refine ⟨⟨i + 1, hlt, rfl, e0, e1, by rw [ta, tb, heq, hxy], hw⟩, ?_⟩
        simp only [sq_n, sq_x, sq_r, bk_n, bk_r, bk_x, rt_r, rt_n, rs_0, rs_t, pk_1, pk_2, up_at, reduceIte, Nat.reduceEqDiff, intOf]; omega
    · obtain rfl : i = a.length := by omega
      rw [decide_eq_false (by omega)]
      refine condF ?_
      rw [sq_x, bk_x, sq_n, dispatcherref11_Ints_R1_eq]; unfold dispatcherref11_Ints_R1_F
      refine ⟨?_, hm⟩
      rw [List.take_length, hlen, List.take_length] at heq
      rw [decide_eq_true heq]; rfl
  · rw [show ((a.length : Int) != (b.length : Int)) = true by rw [bne_iff_ne]; omega]
    refine condT ⟨?_, Mod.refl _ _⟩
    rw [decide_eq_false fun z => hlen (by rw [z])]
theorem SameD_ok {k1 k2 : Ky} {v u : Value} {a b : List Int} (ha : RR w v a) (hb : RR w u b) (hl : a.length ≤ maxLen) : Rt Tryd.prog 42 #[grpV k1 v, grpV k2 u] w fun x w' => x = .bool (decide (k1 = k2) && decide (a = b)) ∧ Mod none_ w w' := by
  refine dispatcherref11_Same_calls ?_
  unfold dispatcherref11_Same_F
  refine box_k (cs := #[strV k1, v]) rfl fun w1 hb1 hm1 hz1 => ?_
  refine box_k (cs := #[strV k2, u]) rfl fun w2 hb2 hm2 hz2 => ?_
  have hb1' := hm2.blk hb1 id
  have hm := hm1.trans hm2
  simp only [↓(fG0 hb1').e, ↓(fG0 hb2).e]
  by_cases hk : k1 = k2
  · unfold strV
    rw [SEQt (by rw [hk])]
    simp only [↓VG_u, ↓UG_u, ↓MG_u, ↓NG_u, ↓PG_u, ↓BG_u, ↓CG_u, ↓IG_u, ↓VGtt, ↓VGtf, ↓VGft, ↓VGff, ↓UGtt, ↓UGtf, ↓UGft, ↓UGff, ↓MGtt, ↓MGtf, ↓MGft, ↓MGff, ↓NGtt, ↓NGtf, ↓NGft, ↓NGff, ↓PGtt, ↓PGtf, ↓PGft, ↓PGff, ↓BGtt, ↓BGtf, ↓BGft, ↓BGff, ↓CGtt, ↓CGtf, ↓CGft, ↓CGff, ↓IGtt, ↓IGtf, ↓IGft, ↓IGff, ↓PKt, ↓PKf, ↓CDt, ↓CDf, ↓NOTt, ↓NOTf, ↓NK_ptr, ↓(fG1 hb1').e, ↓(fG1 hb2).e]
    refine CK_st Tryd.func63 rfl rfl (Ints_ok (ha.calm hm) (hb.calm hm) hl) ?_
    rintro _ w3 ⟨rfl, hm3⟩
    rw [decide_eq_true hk, Bool.true_and]
    exact ⟨rfl, hm.trans hm3⟩
  · unfold strV
    rw [SEQf (fun q => hk (by simpa using congrArg (fun b : ByteArray => b.data.toList) q))]
    simp only [↓VG_u, ↓UG_u, ↓MG_u, ↓NG_u, ↓PG_u, ↓BG_u, ↓CG_u, ↓IG_u, ↓VGtt, ↓VGtf, ↓VGft, ↓VGff, ↓UGtt, ↓UGtf, ↓UGft, ↓UGff, ↓MGtt, ↓MGtf, ↓MGft, ↓MGff, ↓NGtt, ↓NGtf, ↓NGft, ↓NGff, ↓PGtt, ↓PGtf, ↓PGft, ↓PGff, ↓BGtt, ↓BGtf, ↓BGft, ↓BGff, ↓CGtt, ↓CGtf, ↓CGft, ↓CGff, ↓IGtt, ↓IGtf, ↓IGft, ↓IGff, ↓PKt, ↓PKf, ↓CDt, ↓CDf, ↓NOTt, ↓NOTf, ↓NK_ptr]
    rw [decide_eq_false hk, Bool.false_and]
    exact ⟨rfl, hm⟩
theorem appI {v : Value} {xs : List Int} {m : Int} {B : Nat} {K : Value → Value → World → Prop} (ho : w.ownsRow B tI 1 v xs.length (ints xs)) (hB : B ≤ w.heap.size) (hl : xs.length ≤ 2000000)
    (hk : ∀ x v' w', w'.ownsRow B tI 1 v' (xs ++ [m]).length (ints (xs ++ [m])) → Mod (fun b => B ≤ b ∧ (sb v b ∨ w.heap.size ≤ b)) w w' → K x v' w') :
    VK Tryd.prog (Instr.buildSlice tIs 1 [(0, .int .i64 m)].toArray) w fun x w => IK Tryd.prog .append #[tIs, tIs] tIs [false, false] [v, x] w (K x) := by
  refine bs_k (cs := #[.int .i64 m]) (by kernel_rfl) fun w1 hb1 hm1 hz1 => ?_
  refine ap_any eIs (owns_mod ho hm1 fun _ _ => id) (reads_blk (size := 1) (n := 1) hb1 rfl) (fun u hu => by rw [List.mem_singleton.1 hu]; rfl) (by unfold maxLen; omega) (by omega) (by omega) fun v' w2 ho2 hm2 hv2 => ?_
  refine hk _ v' w2 ?_ ((hm1.mono fun _ _ z => z.elim).trans (hm2.mono fun b _ z => ⟨(owns_bd (owns_mod ho hm1 fun _ _ => id) b z.symm).1, .inl z.symm⟩))
  rw [List.length_append]
  unfold ints at ho2 ⊢
  rw [List.map_append]
  exact ho2
theorem worldL_succ (n : Nat) : worldL (n + 1) = worldL n ++ [(n : Int)] := by
  unfold worldL
  rw [List.range_succ, List.map_append]; rfl
theorem bG0 : Tryd.prog.built tG [] = some #[strV [], nilS] := by kernel_rfl
theorem World_ok {n : Nat} (h1 : 1 ≤ n) (h64 : n ≤ 64) : Rt Tryd.prog 60 #[.int .i64 (n : Int)] w fun v w' => ∃ rv, v = .tuple #[grpV [] rv, .int .i64 0] ∧ w'.ownsRow w.heap.size tI 1 rv n (ints (worldL n)) ∧ Mod none_ w w' := by
  refine dispatcherref11_World_calls ?_
  unfold dispatcherref11_World_F
  refine al_k (cs := #[strV [], nilS]) zG rfl _ fun w1 hb1 hm1 hz1 => ?_
  simp only [↓VG_u, ↓UG_u, ↓MG_u, ↓NG_u, ↓PG_u, ↓BG_u, ↓CG_u, ↓IG_u, ↓VGtt, ↓VGtf, ↓VGft, ↓VGff, ↓UGtt, ↓UGtf, ↓UGft, ↓UGff, ↓MGtt, ↓MGtf, ↓MGft, ↓MGff, ↓NGtt, ↓NGtf, ↓NGft, ↓NGff, ↓PGtt, ↓PGtf, ↓PGft, ↓PGff, ↓BGtt, ↓BGtf, ↓BGft, ↓BGff, ↓CGtt, ↓CGtf, ↓CGft, ↓CGff, ↓IGtt, ↓IGtf, ↓IGft, ↓IGff, ↓PKt, ↓PKf, ↓CDt, ↓CDf, ↓NOTt, ↓NOTf, ↓NK_ptr, ↓LTf (show (1 : Int) ≤ (n : Int) by omega), ↓GTf (show (n : Int) ≤ 64 by omega)]
  rw [build_ok bG0]
  refine lcl_k (cs := #[strV [], nilS]) zG _ iG rfl (grp_one _ none 0 0) fun w2 hb2 hm2 hz2 => ?_
  have hb12 := hm2.blk hb1 id
  have hm02 := hm1.trans hm2
  refine W_loop dispatcherref11_World_L0_ok (fun ρ w' => ∃ i : Nat, i ≤ n ∧ ρ 5 = .int .i64 i ∧ ρ 0 = .int .i64 (n : Int) ∧ ρ 2 = .pointer (some ⟨w.heap.size, 0, none⟩) ∧ ρ 4 = .pointer (some ⟨w1.heap.size, 0, none⟩) ∧ w'.heap[w.heap.size]? = some (.cells #[strV [], nilS] tG (0, 0)) ∧ (∃ rv, w'.heap[w1.heap.size]? = some (.cells #[strV [], rv] tG (0, 0)) ∧ w'.ownsRow w.heap.size tI 1 rv (worldL i).length (ints (worldL i))) ∧ Mod none_ w w') (fun ρ _ => n - (intOf (ρ 5)).toNat)
    ⟨0, Nat.zero_le _, rfl, rfl, rfl, rfl, hb12, ⟨nilS, hb2, World.ownsRow_nil _ _ _ _⟩, hm02⟩ ?_
  rintro ρ w3 ⟨i, hi, q5, q0, q2, q4, hbA, ⟨rv, hbB, ho⟩, hm⟩
  have hs1 := hm1.size
  rw [dispatcherref11_World_L0_eq]; unfold dispatcherref11_World_L0_F
  rw [q5, q0, q4, BK_lss]
  by_cases hlt : i < n
  · rw [decide_eq_true (by omega)]
    refine condT ?_
    simp only [↓(fG1 hbB).e]
    have hwl := worldL_len i
    refine appI ho hm.size (by omega) fun x v' w4 ho4 hm4 => ?_
    have nB : ∀ b, isT tG w3 b → ¬ (w.heap.size ≤ b ∧ (sb rv b ∨ w3.heap.size ≤ b)) := fun b hb z => by
      rcases z.2 with z | z
      · exact isT_ne hb (isT_own ho z) (by decide)
      · have := isT_lt hb; omega
    have hbB4 := hm4.blk hbB (nB _ ⟨_, _, hbB⟩)
    have hbA4 := hm4.blk hbA (nB _ ⟨_, _, hbA⟩)
    refine VK_of (v := .pointer (some ⟨w1.heap.size, 1, none⟩)) (by rw [run_fo (show fieldOff Tryd.prog tG 1 = some 1 by kernel_rfl), add_pl]) ?_
    refine stC (b := w1.heap.size) (o := 1) rfl (by kernel_rfl) (by obtain ⟨A', c', e', _⟩ := reads_cap (reads_of_owns ho4); rw [e']; rfl) hbB4 (by show 1 < 2; decide) fun w5 hb5 hm5 hz5 => ?_
    have hs4 := hm4.size
    have ho5 := owns_mod ho4 hm5 fun b hb z => by subst z; exact isT_ne (isT_own ho4 hb) ⟨_, _, hbB4⟩ (by decide)
    rw [BK_add, wrap_i (by omega) (by omega)]
    refine ⟨⟨i + 1, hlt, rfl, q0, q2, q4, hm5.blk hbA4 (fun z => by omega), ⟨v', hb5, ?_⟩, (hm.then hm4 fun i hi z => by omega).then hm5 fun i hi z => by omega⟩, ?_⟩
    · rw [worldL_succ]; exact ho5
    · simp only [sq_n, sq_x, sq_r, bk_n, bk_r, bk_x, rt_r, rt_n, rs_0, rs_t, pk_1, pk_2, up_at, reduceIte, Nat.reduceEqDiff, intOf]; omega
  · obtain rfl : i = n := by omega
    rw [decide_eq_false (by omega)]
    refine condF ?_
    rw [sq_x, bk_x, sq_n, dispatcherref11_World_R1_eq]; unfold dispatcherref11_World_R1_F
    simp only [sq_n, sq_x, sq_r, bk_n, bk_r, bk_x, rt_r, rt_n, rs_0, rs_t, pk_1, pk_2, up_at, reduceIte, Nat.reduceEqDiff, q4, q2]
    refine ldS (cs := #[strV [], rv]) rfl Tryd.underlying32 rfl iG hbB ?_
    refine stS (old := #[strV [], nilS]) (cs := #[strV [], rv]) rfl rfl iG rfl (by obtain ⟨A', c', e', _⟩ := reads_cap (reads_of_owns ho); rw [e']; exact grp_one _ _ _ _) hbA fun w5 hb5 hm5 hz5 => ?_
    refine rtCT (b := w.heap.size) (cs := #[strV [], rv]) (by first | exact q2 | rfl) Tryd.underlying32 rfl iG hb5 (R := fun v w' => ∃ rv, v = .tuple #[grpV [] rv, .int .i64 0] ∧ w'.ownsRow w.heap.size tI 1 rv i (ints (worldL i)) ∧ Mod none_ w w') ⟨rv, rfl, ?_, hm.then hm5 fun i hi z => by omega⟩
    have := owns_mod ho hm5 fun b hb z => by subst z; exact isT_ne (isT_own ho hb) ⟨_, _, hbA⟩ (by decide)
    rw [worldL_len] at this
    exact this
theorem ranks_ok {n : Nat} (h1 : 1 ≤ n) (h64 : n ≤ 64) : Rt Tryd.prog 30 #[.int .i64 (n : Int)] w fun v w' => ∃ rv, v = grpV [] rv ∧ w'.ownsRow w.heap.size tI 1 rv n (ints (worldL n)) ∧ Mod none_ w w' := by
  refine dispatcherlaw15_ranks_calls ?_
  unfold dispatcherlaw15_ranks_F
  refine al_k (cs := #[strV [], nilS]) zG rfl _ fun w1 hb1 hm1 hz1 => ?_
  refine CK_st Tryd.func60 rfl rfl (World_ok h1 h64) ?_
  rintro _ w2 ⟨rv, rfl, ho, hm2⟩
  rw [extract_ok (v := grpV [] rv) rfl, extract_ok (v := .int .i64 0) rfl]
  obtain ⟨A', c', e', _⟩ := reads_cap (reads_of_owns ho)
  have one : (#[strV [], rv] : Array Value).all (·.oneCell') = true := by rw [e']; exact grp_one _ _ _ _
  refine lcl_k (cs := #[strV [], rv]) zG _ iG rfl one fun w3 hb3 hm3 hz3 => ?_
  refine ldS (cs := #[strV [], rv]) rfl Tryd.underlying32 rfl iG hb3 ?_
  have hm03 := (hm1.trans hm2).trans hm3
  refine stS (old := #[strV [], nilS]) (cs := #[strV [], rv]) rfl rfl iG rfl one ((hm2.trans hm3).blk hb1 id) fun w4 hb4 hm4 hz4 => ?_
  have hs1 := hm1.size
  have ho3 := owns_mod ho hm3 fun _ _ => id
  have hbw := (hm2.trans hm3).blk hb1 id
  refine rsCell (R := fun u w'' => ∃ rv, u = grpV [] rv ∧ w''.ownsRow w.heap.size tI 1 rv n (ints (worldL n)) ∧ Mod none_ w w'') (cs := #[strV [], rv]) rfl Tryd.underlying32 rfl iG hb4 ⟨rv, rfl, owns_base (owns_mod ho3 hm4 fun b hb z => by subst z; exact isT_ne (isT_own ho3 hb) ⟨_, _, hbw⟩ (by decide)) hs1, hm03.then hm4 fun i hi z => by omega⟩
theorem bPtR (v : Int) : Tryd.prog.built tPt [(0, .int .u8 17), (1, .int .i64 1), (3, .int .i64 v)] = some (Pt.enc ⟨17, 1, 0, v, 0, 0⟩).toArray := by kernel_rfl
theorem reduce_ok (v : Int) : Rt Tryd.prog 56 #[.int .i64 v] w fun x w' => x = (Pt.v ⟨17, 1, 0, v, 0, 0⟩) ∧ Mod none_ w w' := by
  refine dispatcherlaw15_reduce_calls ?_
  unfold dispatcherlaw15_reduce_F
  refine al_k (cs := zPt.enc.toArray) zPt_z rfl _ fun w1 hb1 hm1 hz1 => ?_
  rw [build_ok (bPtR v)]
  refine stS (old := zPt.enc.toArray) (cs := (Pt.enc ⟨17, 1, 0, v, 0, 0⟩).toArray) rfl rfl iPt rfl (Pt.enc_one _) hb1 fun w2 hb2 hm2 hz2 => ?_
  exact rsCell (R := fun x w'' => x = (Pt.v ⟨17, 1, 0, v, 0, 0⟩) ∧ Mod none_ w w'') (cs := (Pt.enc ⟨17, 1, 0, v, 0, 0⟩).toArray) rfl Tryd.underlying34 rfl iPt hb2 ⟨rfl, hm1.then hm2 fun i hi z => by omega⟩
end
end Go.Proofs.YtandbmnhghmcgaaDoor.Col
set_option linter.unusedVariables false
set_option linter.unusedSimpArgs false
set_option maxRecDepth 8000
namespace Go.Proofs.YtandbmnhghmcgaaDoor.Col
open Go Go.X Go.RowKit Go.Proofs.YtandbmnhghmcgaaDoor.XF Go.Proofs.YtandbmnhghmcgaaDoor.XG Go.Proofs.YtandbmnhghmcgaaDoor.XI Go.Proofs.YtandbmnhghmcgaaDoor.XK
def TdR (w : World) (v : Value) (t : Td) : Prop := ∃ row rks, v = .agg (tdCells t row rks) ∧ RR w row t.row ∧ RR w rks t.ranks
section
variable {w : World} {p : Nat} {loose : Bool} {L : List Br} {V : CV}
theorem TdAt.R {B : Nat} {v : Value} {t : Td} (h : TdAt w B v t) : TdR w v t := by
  obtain ⟨row, rks, rfl, h1, h2⟩ := h
  exact ⟨row, rks, rfl, reads_of_owns h1, reads_of_owns h2⟩
theorem TdR.calm {w' : World} {v : Value} {t : Td} (h : TdR w v t) (hm : Mod none_ w w') : TdR w' v t := by
  obtain ⟨row, rks, rfl, h1, h2⟩ := h
  exact ⟨row, rks, rfl, h1.calm hm, h2.calm hm⟩
theorem CAt.notT (h : CAt w p loose L V) {t : TypeId} (h1 : t ≠ tC) (h2 : t ≠ tRo) (h3 : t ≠ tPts) (h4 : t ≠ tPt) {b : Nat} (hb : CF p V b) : ¬ isT t w b := by
  intro q
  rcases hb with rfl | rfl | ⟨e, he, hb⟩
  · exact isT_ne q ⟨_, _, h.blk⟩ h1
  · obtain ⟨cs, fr, q⟩ := q
    have := h.map
    unfold IsMap at this
    rw [this] at q
    injection q with q
    cases q
  · rcases (h.ro e he).blks hb with z | z | z
    · exact isT_ne q z h2
    · exact isT_ne q z h3
    · exact isT_ne q z h4
theorem fT0 {b : Nat} {t : Td} {row rks : Value} (h : w.heap[b]? = some (.cells (tdCells t row rks) tTd (0, 0))) : FO Tryd.prog w tTd 0 0 ⟨b, 0, none⟩ tL (.int .i64 t.val) := FO.blk h (by kernel_rfl) vL rfl rfl
theorem fT1 {b : Nat} {t : Td} {row rks : Value} (h : w.heap[b]? = some (.cells (tdCells t row rks) tTd (0, 0))) : FO Tryd.prog w tTd 1 1 ⟨b, 0, none⟩ tLs row := FO.blk h (by kernel_rfl) vLs rfl rfl
theorem fT3 {b : Nat} {t : Td} {row rks : Value} (h : w.heap[b]? = some (.cells (tdCells t row rks) tTd (0, 0))) : FO Tryd.prog w tTd 3 4 ⟨b, 0, none⟩ 4 (.bool t.has) := FO.blk h (by kernel_rfl) vB rfl rfl
theorem fT2 {b : Nat} {t : Td} {row rks : Value} (h : w.heap[b]? = some (.cells (tdCells t row rks) tTd (0, 0))) : FO Tryd.prog w tTd 2 2 ⟨b, 0, none⟩ tG (grpV t.gkey rks) := ⟨by kernel_rfl, fun K => by
  refine VK_eq_of (run_ldA (cs := [strV t.gkey, rks]) Tryd.underlying32 rfl (by kernel_rfl) fun j v hj => ?_)
  rw [add_pl, Nat.zero_add, add_pl, cell_blk h]
  match j, hj with
  | 0, hj => simpa [tdCells] using hj
  | 1, hj => simpa [tdCells] using hj
  | n + 2, hj => simp at hj⟩
theorem ixRL {v : Value} {l : List Int} {i : Nat} {m : Int} (h : RR w v l) (hi : l[i]? = some m) : ∃ a, (∀ w', (Instr.indexAt tLs v (.int .i64 (i : Int))).run Tryd.prog w' = .ok (.pointer (some a)) w') ∧ ∀ w', Mod none_ w w' → (Instr.loadAt tL (.pointer (some a))).run Tryd.prog w' = .ok (.int .i64 m) w' := by
  have hil := (List.getElem?_eq_some_iff.1 hi).1
  obtain ⟨_, A, c, es, hnc, hr⟩ := id h
  obtain ⟨a, ha, _⟩ := hr i _ (ints_get hi)
  subst es ha
  refine ⟨a.add i, fun w' => ?_, fun w' hw => ?_⟩
  · rw [run_ixa (sz := 0) vLs (by kernel_rfl) (by omega) (by omega) w']
    congr 4
    omega
  · obtain ⟨_, A, c, es, _, hc⟩ := h.calm hw
    cases es
    obtain ⟨b, hb, hcell⟩ := hc i _ (ints_get hi)
    cases hb
    exact run_ld1 vL rfl hcell
def sameTd (a b : Td) : Bool := decide (a.val = b.val) && (decide (a.has = b.has) && ((decide (a.gkey = b.gkey) && decide (a.ranks = b.ranks)) && decide (a.row = b.row)))
theorem sameTd_iff {a b : Td} : sameTd a b = true ↔ a = b := by
  cases a; cases b
  simp only [sameTd, Bool.and_eq_true, decide_eq_true_eq, Td.mk.injEq]
  constructor
  · rintro ⟨h1, h2, ⟨h3, h4⟩, h5⟩; exact ⟨h1, h5, h3, h4, h2⟩
  · rintro ⟨h1, h5, h3, h4, h2⟩; exact ⟨h1, h2, ⟨h3, h4⟩, h5⟩
theorem Same_loop {w0 : World} {ρ : Sl} {b2 b3 : Nat} {a b : Td} {ra ka rb kb : Value} (h2 : w.heap[b2]? = some (.cells (tdCells a ra ka) tTd (0, 0))) (h3 : w.heap[b3]? = some (.cells (tdCells b rb kb) tTd (0, 0))) (ha : RR w ra a.row) (hb : RR w rb b.row) (hlen : a.row.length = b.row.length) (hl : a.row.length ≤ maxLen) (hm0 : Mod none_ w0 w)
    (q2 : ρ 2 = .pointer (some ⟨b2, 0, none⟩)) (q3 : ρ 3 = .pointer (some ⟨b3, 0, none⟩)) : sx fn_ Tryd.prog 53 dispatcherref15_Same_R1 (retK Tryd.prog [ResultVar.tmp 4] fun x w' => x = .bool (decide (a.row = b.row)) ∧ Mod none_ w0 w') ρ w := by
  have hl' : a.row.length ≤ 9223372036854775807 := hl
  rw [dispatcherref15_Same_R1_eq]; unfold dispatcherref15_Same_R1_F
  refine W_loop dispatcherref15_Same_L2_ok (fun ρ w' => ∃ i : Nat, i ≤ a.row.length ∧ ρ 5 = .int .i64 i ∧ ρ 2 = .pointer (some ⟨b2, 0, none⟩) ∧ ρ 3 = .pointer (some ⟨b3, 0, none⟩) ∧ a.row.take i = b.row.take i ∧ Mod none_ w w') (fun ρ _ => a.row.length - (intOf (ρ 5)).toNat)
    ⟨0, Nat.zero_le _, rfl, q2, q3, by simp, Mod.refl _ _⟩ ?_
  rintro ρ w1 ⟨i, hi, e5, e2, e3, heq, hm⟩
  rw [dispatcherref15_Same_L2_eq]; unfold dispatcherref15_Same_L2_F
  obtain ⟨A, c, es, _⟩ := reads_cap ha
  rw [e5, e2]
  simp only [↓(fT1 (hm.blk h2 id)).e]
  rw [es, len_sl vLs, BK_lss]
  by_cases hlt : i < a.row.length
  · rw [decide_eq_true (by omega)]
    refine condT ?_
    have hx : a.row[i]? = some a.row[i] := List.getElem?_eq_getElem hlt
    have hy : b.row[i]? = some b.row[i] := List.getElem?_eq_getElem (by omega)
    have ta : a.row.take (i + 1) = a.row.take i ++ [a.row[i]] := by rw [List.take_add_one, hx]; rfl
    have tb : b.row.take (i + 1) = b.row.take i ++ [b.row[i]] := by rw [List.take_add_one, hy]; rfl
    generalize a.row[i] = x at *
    generalize b.row[i] = y at *
    obtain ⟨p1, r1, l1⟩ := ixRL ha hx
    obtain ⟨p2, r2, l2⟩ := ixRL hb hy
    refine dispatcherref15_Same_R4_quiet (D := []) (fun w' => Mod none_ w w') (hm.trans ((Mod.refl _ w1).drawn _)) ?_
    unfold dispatcherref15_Same_R4_Q
    simp only [sq_n, sq_x, sq_r, bk_n, bk_r, bk_x, rt_r, rt_n, rs_0, rs_t, pk_1, pk_2, up_at, reduceIte, Nat.reduceEqDiff, e2, e3, e5]
    refine QV_of (v := .pointer (some ⟨b2, 1, none⟩)) (fun w' _ => by rw [run_fo (show fieldOff Tryd.prog tTd 1 = some 1 by kernel_rfl), add_pl]) (QV_of (v := ra) (fun w' hw => run_ld1 vLs rfl (by rw [cell_blk (hw.blk h2 id)]; rfl)) (QV_of (fun w' _ => r1 w') (QV_of (fun w' hw => l1 w' hw) ?_)))
    refine QV_of (v := .pointer (some ⟨b3, 1, none⟩)) (fun w' _ => by rw [run_fo (show fieldOff Tryd.prog tTd 1 = some 1 by kernel_rfl), add_pl]) (QV_of (v := rb) (fun w' hw => run_ld1 vLs rfl (by rw [cell_blk (hw.blk h3 id)]; rfl)) (QV_of (fun w' _ => r2 w') (QV_of (fun w' hw => l2 w' hw) ?_)))
    refine Qneq ?_
    intro w' hw
    try rw [sq_n]
    rw [dispatcherref15_Same_R5_eq]; unfold dispatcherref15_Same_R5_F
    simp only [sq_n, sq_x, sq_r, bk_n, bk_r, bk_x, rt_r, rt_n, rs_0, rs_t, pk_1, pk_2, up_at, reduceIte, Nat.reduceEqDiff]
    refine caseC (fun q => ?_) (fun q => ?_)
    · refine ⟨?_, hm0.trans hw⟩
      have hne : a.row ≠ b.row := fun z => by
        rw [z, hy] at hx
        have : x ≠ y := by simpa using q
        exact this (Option.some.inj hx).symm
      rw [decide_eq_false hne]
      try rfl
    · have hxy : x = y := by simpa using q
      try rw [bk_n, sq_n]
      rw [dispatcherref15_Same_R6_eq]; unfold dispatcherref15_Same_R6_F
      simp only [sq_n, sq_x, sq_r, bk_n, bk_r, bk_x, rt_r, rt_n, rs_0, rs_t, pk_1, pk_2, up_at, reduceIte, Nat.reduceEqDiff, e5]
      rw [BK_add, wrap_i (by omega) (by omega)]
      refine ⟨⟨i + 1, hlt, rfl, e2, e3, by rw [ta, tb, heq, hxy], hw⟩, ?_⟩
      simp only [sq_n, sq_x, sq_r, bk_n, bk_r, bk_x, rt_r, rt_n, rs_0, rs_t, pk_1, pk_2, up_at, reduceIte, Nat.reduceEqDiff, intOf]; omega
  · obtain rfl : i = a.row.length := by omega
    rw [decide_eq_false (by omega)]
    refine condF ?_
    rw [sq_x, bk_x, sq_n, dispatcherref15_Same_R3_eq]; unfold dispatcherref15_Same_R3_F
    refine ⟨?_, hm0.trans hm⟩
    rw [List.take_length, hlen, List.take_length] at heq
    rw [decide_eq_true heq]; rfl
theorem Same15_ok {v u : Value} {a b : Td} (ha : TdR w v a) (hb : TdR w u b) (hl : a.row.length ≤ maxLen) (hl2 : a.ranks.length ≤ maxLen) : Rt Tryd.prog 28 #[v, u] w fun x w' => x = .bool (sameTd a b) ∧ Mod none_ w w' := by
  obtain ⟨ra, ka, rfl, ha1, ha2⟩ := ha
  obtain ⟨rb, kb, rfl, hb1, hb2⟩ := hb
  refine dispatcherref15_Same_calls ?_
  unfold dispatcherref15_Same_F
  refine box_k (cs := tdCells a ra ka) rfl fun w1 h1 hm1 hz1 => ?_
  refine box_k (cs := tdCells b rb kb) rfl fun w2 h2 hm2 hz2 => ?_
  have h12 := hm2.blk h1 id
  have hm := hm1.trans hm2
  simp only [↓(fT0 h12).e, ↓(fT0 h2).e]
  unfold sameTd
  by_cases c1 : a.val = b.val
  case neg =>
    rw [decide_eq_false c1]
    simp only [↓VG_u, ↓UG_u, ↓MG_u, ↓NG_u, ↓PG_u, ↓BG_u, ↓CG_u, ↓IG_u, ↓VGtt, ↓VGtf, ↓VGft, ↓VGff, ↓UGtt, ↓UGtf, ↓UGft, ↓UGff, ↓MGtt, ↓MGtf, ↓MGft, ↓MGff, ↓NGtt, ↓NGtf, ↓NGft, ↓NGff, ↓PGtt, ↓PGtf, ↓PGft, ↓PGff, ↓BGtt, ↓BGtf, ↓BGft, ↓BGff, ↓CGtt, ↓CGtf, ↓CGft, ↓CGff, ↓IGtt, ↓IGtf, ↓IGft, ↓IGff, ↓PKt, ↓PKf, ↓CDt, ↓CDf, ↓NOTt, ↓NOTf, ↓NK_ptr, ↓NEt c1, dispatcherref15_Same_R0_eq, dispatcherref15_Same_R0_F, sq_n, sq_x, sq_r, bk_n, bk_r, bk_x, rt_r, rt_n, rs_0, rs_t, pk_1, pk_2, up_at, reduceIte, Nat.reduceEqDiff]
    exact ⟨rfl, hm⟩
  rw [decide_eq_true c1]
  simp only [↓VG_u, ↓UG_u, ↓MG_u, ↓NG_u, ↓PG_u, ↓BG_u, ↓CG_u, ↓IG_u, ↓VGtt, ↓VGtf, ↓VGft, ↓VGff, ↓UGtt, ↓UGtf, ↓UGft, ↓UGff, ↓MGtt, ↓MGtf, ↓MGft, ↓MGff, ↓NGtt, ↓NGtf, ↓NGft, ↓NGff, ↓PGtt, ↓PGtf, ↓PGft, ↓PGff, ↓BGtt, ↓BGtf, ↓BGft, ↓BGff, ↓CGtt, ↓CGtf, ↓CGft, ↓CGff, ↓IGtt, ↓IGtf, ↓IGft, ↓IGff, ↓PKt, ↓PKf, ↓CDt, ↓CDf, ↓NOTt, ↓NOTf, ↓NK_ptr, ↓NEf c1, ↓(fT3 h12).e, ↓(fT3 h2).e]
  rw [BK_neqB vB]
  by_cases c2 : a.has = b.has
  case neg =>
    rw [show (!(a.has == b.has)) = true from by simpa using c2, decide_eq_false c2]
    simp only [↓VG_u, ↓UG_u, ↓MG_u, ↓NG_u, ↓PG_u, ↓BG_u, ↓CG_u, ↓IG_u, ↓VGtt, ↓VGtf, ↓VGft, ↓VGff, ↓UGtt, ↓UGtf, ↓UGft, ↓UGff, ↓MGtt, ↓MGtf, ↓MGft, ↓MGff, ↓NGtt, ↓NGtf, ↓NGft, ↓NGff, ↓PGtt, ↓PGtf, ↓PGft, ↓PGff, ↓BGtt, ↓BGtf, ↓BGft, ↓BGff, ↓CGtt, ↓CGtf, ↓CGft, ↓CGff, ↓IGtt, ↓IGtf, ↓IGft, ↓IGff, ↓PKt, ↓PKf, ↓CDt, ↓CDf, ↓NOTt, ↓NOTf, ↓NK_ptr, dispatcherref15_Same_R0_eq, dispatcherref15_Same_R0_F, sq_n, sq_x, sq_r, bk_n, bk_r, bk_x, rt_r, rt_n, rs_0, rs_t, pk_1, pk_2, up_at, reduceIte, Nat.reduceEqDiff]
    exact ⟨rfl, hm⟩
  rw [show (!(a.has == b.has)) = false from by simpa using c2, decide_eq_true c2]
  simp only [↓VG_u, ↓UG_u, ↓MG_u, ↓NG_u, ↓PG_u, ↓BG_u, ↓CG_u, ↓IG_u, ↓VGtt, ↓VGtf, ↓VGft, ↓VGff, ↓UGtt, ↓UGtf, ↓UGft, ↓UGff, ↓MGtt, ↓MGtf, ↓MGft, ↓MGff, ↓NGtt, ↓NGtf, ↓NGft, ↓NGff, ↓PGtt, ↓PGtf, ↓PGft, ↓PGff, ↓BGtt, ↓BGtf, ↓BGft, ↓BGff, ↓CGtt, ↓CGtf, ↓CGft, ↓CGff, ↓IGtt, ↓IGtf, ↓IGft, ↓IGff, ↓PKt, ↓PKf, ↓CDt, ↓CDf, ↓NOTt, ↓NOTf, ↓NK_ptr, ↓(fT2 h12).e, ↓(fT2 h2).e]
  refine CK_st Tryd.func42 rfl rfl (SameD_ok (ha2.calm hm) (hb2.calm hm) hl2) ?_
  rintro _ w3 ⟨rfl, hm3⟩
  have hm03 := hm.trans hm3
  have h13 := hm3.blk h12 id
  have h23 := hm3.blk h2 id
  cases c3 : (decide (a.gkey = b.gkey) && decide (a.ranks = b.ranks)) with
  | false =>
    simp only [↓VG_u, ↓UG_u, ↓MG_u, ↓NG_u, ↓PG_u, ↓BG_u, ↓CG_u, ↓IG_u, ↓VGtt, ↓VGtf, ↓VGft, ↓VGff, ↓UGtt, ↓UGtf, ↓UGft, ↓UGff, ↓MGtt, ↓MGtf, ↓MGft, ↓MGff, ↓NGtt, ↓NGtf, ↓NGft, ↓NGff, ↓PGtt, ↓PGtf, ↓PGft, ↓PGff, ↓BGtt, ↓BGtf, ↓BGft, ↓BGff, ↓CGtt, ↓CGtf, ↓CGft, ↓CGff, ↓IGtt, ↓IGtf, ↓IGft, ↓IGff, ↓PKt, ↓PKf, ↓CDt, ↓CDf, ↓NOTt, ↓NOTf, ↓NK_ptr, dispatcherref15_Same_R0_eq, dispatcherref15_Same_R0_F, sq_n, sq_x, sq_r, bk_n, bk_r, bk_x, rt_r, rt_n, rs_0, rs_t, pk_1, pk_2, up_at, reduceIte, Nat.reduceEqDiff]
    exact ⟨rfl, hm03⟩
  | true =>
    simp only [↓VG_u, ↓UG_u, ↓MG_u, ↓NG_u, ↓PG_u, ↓BG_u, ↓CG_u, ↓IG_u, ↓VGtt, ↓VGtf, ↓VGft, ↓VGff, ↓UGtt, ↓UGtf, ↓UGft, ↓UGff, ↓MGtt, ↓MGtf, ↓MGft, ↓MGff, ↓NGtt, ↓NGtf, ↓NGft, ↓NGff, ↓PGtt, ↓PGtf, ↓PGft, ↓PGff, ↓BGtt, ↓BGtf, ↓BGft, ↓BGff, ↓CGtt, ↓CGtf, ↓CGft, ↓CGff, ↓IGtt, ↓IGtf, ↓IGft, ↓IGff, ↓PKt, ↓PKf, ↓CDt, ↓CDf, ↓NOTt, ↓NOTf, ↓NK_ptr, ↓(fT1 h13).e, ↓(fT1 h23).e]
    obtain ⟨A, c, es, _⟩ := reads_cap ha1
    obtain ⟨A2, c2', es2, _⟩ := reads_cap hb1
    rw [es, len_sl vLs]
    simp only [↓VG_u, ↓UG_u, ↓MG_u, ↓NG_u, ↓PG_u, ↓BG_u, ↓CG_u, ↓IG_u, ↓VGtt, ↓VGtf, ↓VGft, ↓VGff, ↓UGtt, ↓UGtf, ↓UGft, ↓UGff, ↓MGtt, ↓MGtf, ↓MGft, ↓MGff, ↓NGtt, ↓NGtf, ↓NGft, ↓NGff, ↓PGtt, ↓PGtf, ↓PGft, ↓PGff, ↓BGtt, ↓BGtf, ↓BGft, ↓BGff, ↓CGtt, ↓CGtf, ↓CGft, ↓CGff, ↓IGtt, ↓IGtf, ↓IGft, ↓IGff, ↓PKt, ↓PKf, ↓CDt, ↓CDf, ↓NOTt, ↓NOTf, ↓NK_ptr, ↓(fT1 h23).e]
    rw [es2, len_sl vLs, BK_neq]
    by_cases c4 : a.row.length = b.row.length
    · rw [show ((a.row.length : Int) != (b.row.length : Int)) = false by rw [c4]; simp]
      simp only [↓VG_u, ↓UG_u, ↓MG_u, ↓NG_u, ↓PG_u, ↓BG_u, ↓CG_u, ↓IG_u, ↓VGtt, ↓VGtf, ↓VGft, ↓VGff, ↓UGtt, ↓UGtf, ↓UGft, ↓UGff, ↓MGtt, ↓MGtf, ↓MGft, ↓MGff, ↓NGtt, ↓NGtf, ↓NGft, ↓NGff, ↓PGtt, ↓PGtf, ↓PGft, ↓PGff, ↓BGtt, ↓BGtf, ↓BGft, ↓BGff, ↓CGtt, ↓CGtf, ↓CGft, ↓CGff, ↓IGtt, ↓IGtf, ↓IGft, ↓IGff, ↓PKt, ↓PKf, ↓CDt, ↓CDf, ↓NOTt, ↓NOTf, ↓NK_ptr, dispatcherref15_Same_R0_eq, dispatcherref15_Same_R0_F, sq_n, sq_x, sq_r, bk_n, bk_r, bk_x, rt_r, rt_n, rs_0, rs_t, pk_1, pk_2, up_at, reduceIte, Nat.reduceEqDiff]
      exact Same_loop h13 h23 (ha1.calm hm03) (hb1.calm hm03) c4 hl hm03 rfl rfl
    · rw [show ((a.row.length : Int) != (b.row.length : Int)) = true by rw [bne_iff_ne]; omega, decide_eq_false (p := a.row = b.row) fun z => c4 (by rw [z])]
      simp only [↓VG_u, ↓UG_u, ↓MG_u, ↓NG_u, ↓PG_u, ↓BG_u, ↓CG_u, ↓IG_u, ↓VGtt, ↓VGtf, ↓VGft, ↓VGff, ↓UGtt, ↓UGtf, ↓UGft, ↓UGff, ↓MGtt, ↓MGtf, ↓MGft, ↓MGff, ↓NGtt, ↓NGtf, ↓NGft, ↓NGff, ↓PGtt, ↓PGtf, ↓PGft, ↓PGff, ↓BGtt, ↓BGtf, ↓BGft, ↓BGff, ↓CGtt, ↓CGtf, ↓CGft, ↓CGff, ↓IGtt, ↓IGtf, ↓IGft, ↓IGff, ↓PKt, ↓PKf, ↓CDt, ↓CDf, ↓NOTt, ↓NOTf, ↓NK_ptr, dispatcherref15_Same_R0_eq, dispatcherref15_Same_R0_F, sq_n, sq_x, sq_r, bk_n, bk_r, bk_x, rt_r, rt_n, rs_0, rs_t, pk_1, pk_2, up_at, reduceIte, Nat.reduceEqDiff]
      exact ⟨rfl, hm03⟩
def NoC (w : World) (v : Value) : Prop := v = .pointer none ∨ ∃ q, v = .pointer (some ⟨q, 0, none⟩) ∧ w.heap[q]? = some (.cells #[.bool false, .map none] tC (0, 0))
theorem NoC.calm {w' : World} {v : Value} (h : NoC w v) (hm : Mod none_ w w') : NoC w' v := h.imp id fun ⟨q, e, hb⟩ => ⟨q, e, hm.blk hb id⟩
end
end Go.Proofs.YtandbmnhghmcgaaDoor.Col
set_option linter.unusedVariables false
set_option linter.unusedSimpArgs false
set_option maxRecDepth 8000
namespace Go.X
open Go Go.RowKit
structure Ac where
  key : Ky
  rv : Value
  ranks : List Int
  rank : Int
  p : Pt
  copy : Bool
def Ac.enc (a : Ac) : List Value := [strV a.key, a.rv, .int .i64 a.rank] ++ a.p.enc ++ [.bool a.copy]
theorem Ac.enc_len (a : Ac) : a.enc.length = 9 + 1 := rfl
def Ac.br (a : Ac) : Br := ⟨a.key, a.ranks, a.rank, a.p⟩
theorem elIx {P : Program} {w : World} {t e : TypeId} {sz : Nat} (hu : P.underlying t = some (.slice e)) (hc : P.cellsOf e = sz + 1) {α : Type} {enc : α → List Value} (hl : ∀ a, (enc a).length = sz + 1) {l : List α} {v : Value} (h : reads w (sz + 1) v l.length (l.flatMap enc)) {i : Nat} {a : α} (hi : l[i]? = some a) :
    ∃ g : Addr, (∀ w', (Instr.indexAt t v (.int .i64 (i : Int))).run P w' = .ok (.pointer (some g)) w') ∧ ∀ w', Mod none_ w w' → ∀ j c, (enc a)[j]? = some c → w'.cell? (g.add j) = some c := by
  have hil := (List.getElem?_eq_some_iff.1 hi).1
  obtain ⟨_, A, c, es, hnc, hr⟩ := id h
  have h0 : (0 : Nat) < sz + 1 := by omega
  obtain ⟨c0, hc0⟩ : ∃ c0, (enc a)[0]? = some c0 := ⟨_, List.getElem?_eq_getElem (by rw [hl]; exact h0)⟩
  obtain ⟨a0, ha, _⟩ := hr (i * (sz + 1) + 0) c0 (by rw [fl_get hl hi h0]; exact hc0)
  subst es ha
  refine ⟨a0.add (i * (sz + 1)), fun w' => ?_, fun w' hw j x hj => ?_⟩
  · rw [run_ixa hu hc (by omega) (by omega) w']
    rfl
  · have hjl : j < sz + 1 := by have := (List.getElem?_eq_some_iff.1 hj).1; rw [hl] at this; exact this
    obtain ⟨_, A, c, es, _, hc'⟩ := reads_mod h hw (fun _ _ _ => id)
    cases es
    obtain ⟨b, hb, hcell⟩ := hc' (i * (sz + 1) + j) x (by rw [fl_get hl hi hjl]; exact hj)
    cases hb
    rw [add_add]
    exact hcell
def AcAt (w : World) (g : Addr) (a : Ac) : Prop := ∀ j c, a.enc[j]? = some c → w.cell? (g.add j) = some c
structure Acts (w : World) (v : Value) (l : List Ac) : Prop where
  row : reads w (9 + 1) v l.length (l.flatMap Ac.enc)
  rk : ∀ a ∈ l, RR w a.rv a.ranks
theorem Acts.calm {w w' : World} {v : Value} {l : List Ac} (h : Acts w v l) (hm : Mod none_ w w') : Acts w' v l := ⟨reads_mod h.row hm (fun _ _ _ => id), fun a ha => (h.rk a ha).calm hm⟩
structure Small (l : List Ac) : Prop where
  len : l.length ≤ 80
  rk : ∀ a ∈ l, a.ranks.length ≤ 8
  key : ∀ a ∈ l, a.key.length ≤ 200
end Go.X
namespace Go.Proofs.YtandbmnhghmcgaaDoor.Col
open Go Go.X Go.RowKit Go.Proofs.YtandbmnhghmcgaaDoor.XF Go.Proofs.YtandbmnhghmcgaaDoor.XG Go.Proofs.YtandbmnhghmcgaaDoor.XI Go.Proofs.YtandbmnhghmcgaaDoor.XK
abbrev tAc : TypeId := 36
abbrev tAcs : TypeId := 22
theorem vAcs : Tryd.prog.underlying tAcs = some (.slice tAc) := Tryd.underlying22
theorem cAc : Tryd.prog.cellsOf tAc = 9 + 1 := by kernel_rfl
theorem iAc : (Tryd.prog.info? tAc).map (·.size) = some 10 := by kernel_rfl
theorem oAc0 : fieldOff Tryd.prog tAc 0 = some 0 := by kernel_rfl
theorem oAc1 : fieldOff Tryd.prog tAc 1 = some 2 := by kernel_rfl
theorem oAc2 : fieldOff Tryd.prog tAc 2 = some 3 := by kernel_rfl
section
variable {w : World} {g : Addr} {a : Ac}
theorem fC0 (h : AcAt w g a) : FO Tryd.prog w tAc 0 0 g tG (grpV a.key a.rv) := ⟨oAc0, fun K => by
  refine VK_eq_of (run_ldA (cs := [strV a.key, a.rv]) Tryd.underlying32 rfl (by kernel_rfl) fun j v hj => ?_)
  rw [add_add]
  match j, hj with
  | 0, hj => exact h 0 v hj
  | 1, hj => exact h 1 v hj
  | n + 2, hj => simp at hj⟩
theorem fC1 (h : AcAt w g a) : FO Tryd.prog w tAc 1 2 g tI (.int .i64 a.rank) := FO.mk' oAc1 vI rfl (h 2 _ rfl)
theorem fC2 (h : AcAt w g a) : FO Tryd.prog w tAc 2 3 g tPt a.p.v := ⟨oAc2, fun K => by
  refine VK_eq_of (run_ldA (cs := a.p.enc) Tryd.underlying34 rfl (by kernel_rfl) fun j v hj => ?_)
  rw [add_add]
  have hjl := (List.getElem?_eq_some_iff.1 hj).1
  refine h (3 + j) v ?_
  unfold Ac.enc
  rw [List.getElem?_append_left (by simp only [List.length_append, List.length_cons, List.length_nil]; omega), List.getElem?_append_right (by simp)]
  simpa using hj⟩
theorem fCr (h : AcAt w g a) : FO Tryd.prog w tG 1 1 (g.add 0) tIs a.rv := FO.mk' (by kernel_rfl) vIs rfl (by rw [add_add]; exact h 1 _ rfl)
theorem acAt_blk {b : Nat} (h : w.heap[b]? = some (.cells a.enc.toArray tAc (0, 0))) : AcAt w ⟨b, 0, none⟩ a := fun j c hj => by
  rw [add_pl, cell_blk h, Nat.zero_add]
  simpa using hj
theorem acts_at {v : Value} {l : List Ac} (h : Acts w v l) {i : Nat} {a : Ac} (hi : l[i]? = some a) : ∃ g : Addr, (∀ w', (Instr.indexAt tAcs v (.int .i64 (i : Int))).run Tryd.prog w' = .ok (.pointer (some g)) w') ∧ ∀ w', Mod none_ w w' → AcAt w' g a :=
  elIx vAcs cAc Ac.enc_len h.row hi
theorem Great11_ok {key : Ky} {rv : Value} {r : List Int} (h : RR w rv r) : Rt Tryd.prog 33 #[grpV key rv] w fun v w' => ∃ b, v = .bool b ∧ (b = false → key.length ≤ 200) ∧ Mod none_ w w' := by
  refine dispatcherlaw11_Great_calls ?_
  unfold dispatcherlaw11_Great_F
  refine box_k (cs := #[strV key, rv]) rfl fun w1 hb1 hm1 hz1 => ?_
  simp only [↓(fG1 hb1).e]
  obtain ⟨A, c, es, _⟩ := reads_cap h
  rw [es, len_sl vIs]
  by_cases c1 : (80 : Int) < r.length
  · simp only [↓VG_u, ↓UG_u, ↓MG_u, ↓NG_u, ↓PG_u, ↓BG_u, ↓CG_u, ↓IG_u, ↓VGtt, ↓VGtf, ↓VGft, ↓VGff, ↓UGtt, ↓UGtf, ↓UGft, ↓UGff, ↓MGtt, ↓MGtf, ↓MGft, ↓MGff, ↓NGtt, ↓NGtf, ↓NGft, ↓NGff, ↓PGtt, ↓PGtf, ↓PGft, ↓PGff, ↓BGtt, ↓BGtf, ↓BGft, ↓BGff, ↓CGtt, ↓CGtf, ↓CGft, ↓CGff, ↓IGtt, ↓IGtf, ↓IGft, ↓IGff, ↓PKt, ↓PKf, ↓CDt, ↓CDf, ↓NOTt, ↓NOTf, ↓NK_ptr, ↓GTt c1]
    exact ⟨true, rfl, fun q => by simp at q, hm1⟩
  · simp only [↓VG_u, ↓UG_u, ↓MG_u, ↓NG_u, ↓PG_u, ↓BG_u, ↓CG_u, ↓IG_u, ↓VGtt, ↓VGtf, ↓VGft, ↓VGff, ↓UGtt, ↓UGtf, ↓UGft, ↓UGff, ↓MGtt, ↓MGtf, ↓MGft, ↓MGff, ↓NGtt, ↓NGtf, ↓NGft, ↓NGff, ↓PGtt, ↓PGtf, ↓PGft, ↓PGff, ↓BGtt, ↓BGtf, ↓BGft, ↓BGff, ↓CGtt, ↓CGtf, ↓CGft, ↓CGff, ↓IGtt, ↓IGtf, ↓IGft, ↓IGff, ↓PKt, ↓PKf, ↓CDt, ↓CDf, ↓NOTt, ↓NOTf, ↓NK_ptr, ↓GTf (show (r.length : Int) ≤ 80 by omega), ↓(fG0 hb1).e]
    unfold strV
    rw [len_str vS]
    have hsz : (⟨key.toArray⟩ : ByteArray).size = key.length := by simp [ByteArray.size]
    rw [hsz]
    by_cases c2 : (200 : Int) < key.length
    · simp only [↓VG_u, ↓UG_u, ↓MG_u, ↓NG_u, ↓PG_u, ↓BG_u, ↓CG_u, ↓IG_u, ↓VGtt, ↓VGtf, ↓VGft, ↓VGff, ↓UGtt, ↓UGtf, ↓UGft, ↓UGff, ↓MGtt, ↓MGtf, ↓MGft, ↓MGff, ↓NGtt, ↓NGtf, ↓NGft, ↓NGff, ↓PGtt, ↓PGtf, ↓PGft, ↓PGff, ↓BGtt, ↓BGtf, ↓BGft, ↓BGff, ↓CGtt, ↓CGtf, ↓CGft, ↓CGff, ↓IGtt, ↓IGtf, ↓IGft, ↓IGff, ↓PKt, ↓PKf, ↓CDt, ↓CDf, ↓NOTt, ↓NOTf, ↓NK_ptr, ↓GTt c2]
      exact ⟨true, rfl, fun q => by simp at q, hm1⟩
    · simp only [↓VG_u, ↓UG_u, ↓MG_u, ↓NG_u, ↓PG_u, ↓BG_u, ↓CG_u, ↓IG_u, ↓VGtt, ↓VGtf, ↓VGft, ↓VGff, ↓UGtt, ↓UGtf, ↓UGft, ↓UGff, ↓MGtt, ↓MGtf, ↓MGft, ↓MGff, ↓NGtt, ↓NGtf, ↓NGft, ↓NGff, ↓PGtt, ↓PGtf, ↓PGft, ↓PGff, ↓BGtt, ↓BGtf, ↓BGft, ↓BGff, ↓CGtt, ↓CGtf, ↓CGft, ↓CGff, ↓IGtt, ↓IGtf, ↓IGft, ↓IGff, ↓PKt, ↓PKf, ↓CDt, ↓CDf, ↓NOTt, ↓NOTf, ↓NK_ptr, ↓GTf (show (key.length : Int) ≤ 200 by omega)]
      exact ⟨false, rfl, fun _ => by omega, hm1⟩
theorem Great_ok {v : Value} {l : List Ac} (h : Acts w v l) : Rt Tryd.prog 10 #[v] w fun u w' => ∃ b, u = .bool b ∧ (b = false → Small l) ∧ Mod none_ w w' := by
  refine dispatcherlaw15_Great_calls ?_
  unfold dispatcherlaw15_Great_F
  obtain ⟨A, c, es, _⟩ := reads_cap h.row
  have ev := es
  rw [es, len_sl vAcs, ← ev]
  by_cases c1 : (80 : Int) < l.length
  · simp only [↓VG_u, ↓UG_u, ↓MG_u, ↓NG_u, ↓PG_u, ↓BG_u, ↓CG_u, ↓IG_u, ↓VGtt, ↓VGtf, ↓VGft, ↓VGff, ↓UGtt, ↓UGtf, ↓UGft, ↓UGff, ↓MGtt, ↓MGtf, ↓MGft, ↓MGff, ↓NGtt, ↓NGtf, ↓NGft, ↓NGff, ↓PGtt, ↓PGtf, ↓PGft, ↓PGff, ↓BGtt, ↓BGtf, ↓BGft, ↓BGff, ↓CGtt, ↓CGtf, ↓CGft, ↓CGff, ↓IGtt, ↓IGtf, ↓IGft, ↓IGff, ↓PKt, ↓PKf, ↓CDt, ↓CDf, ↓NOTt, ↓NOTf, ↓NK_ptr, ↓GTt c1]
    exact ⟨true, rfl, fun q => by simp at q, Mod.refl _ _⟩
  simp only [↓VG_u, ↓UG_u, ↓MG_u, ↓NG_u, ↓PG_u, ↓BG_u, ↓CG_u, ↓IG_u, ↓VGtt, ↓VGtf, ↓VGft, ↓VGff, ↓UGtt, ↓UGtf, ↓UGft, ↓UGff, ↓MGtt, ↓MGtf, ↓MGft, ↓MGff, ↓NGtt, ↓NGtf, ↓NGft, ↓NGff, ↓PGtt, ↓PGtf, ↓PGft, ↓PGff, ↓BGtt, ↓BGtf, ↓BGft, ↓BGff, ↓CGtt, ↓CGtf, ↓CGft, ↓CGff, ↓IGtt, ↓IGtf, ↓IGft, ↓IGff, ↓PKt, ↓PKf, ↓CDt, ↓CDf, ↓NOTt, ↓NOTf, ↓NK_ptr, ↓GTf (show (l.length : Int) ≤ 80 by omega)]
  refine W_loop dispatcherlaw15_Great_L0_ok (fun ρ w' => ∃ i : Nat, i ≤ l.length ∧ ρ 3 = .int .i64 i ∧ ρ 0 = v ∧ (∀ a ∈ l.take i, a.ranks.length ≤ 8 ∧ a.key.length ≤ 200) ∧ Mod none_ w w') (fun ρ _ => l.length - (intOf (ρ 3)).toNat)
    ⟨0, Nat.zero_le _, rfl, rfl, by simp, Mod.refl _ _⟩ ?_
  rintro ρ w1 ⟨i, hi, e3, e0, hall, hm⟩
  rw [dispatcherlaw15_Great_L0_eq]; unfold dispatcherlaw15_Great_L0_F
  rw [e3, e0, ev, len_sl vAcs, ← ev, BK_lss]
  by_cases hlt : i < l.length
  · rw [decide_eq_true (by omega)]
    refine condT ?_
    have hx : l[i]? = some l[i] := List.getElem?_eq_getElem hlt
    have hmem : l[i] ∈ l := List.getElem_mem hlt
    have etk : l.take (i + 1) = l.take i ++ [l[i]] := by rw [List.take_add_one, hx]; rfl
    generalize l[i] = a at *
    obtain ⟨g, hix, hat⟩ := acts_at h hx
    refine VK_of (hix _) ?_
    simp only [↓(fC0 (hat _ hm)).e]
    refine CK_st Tryd.func33 rfl rfl (Great11_ok (key := a.key) ((h.rk a hmem).calm hm)) ?_
    rintro _ w2 ⟨b, rfl, hb, hm2⟩
    have hm02 := hm.trans hm2
    cases b with
    | true =>
      simp only [↓VG_u, ↓UG_u, ↓MG_u, ↓NG_u, ↓PG_u, ↓BG_u, ↓CG_u, ↓IG_u, ↓VGtt, ↓VGtf, ↓VGft, ↓VGff, ↓UGtt, ↓UGtf, ↓UGft, ↓UGff, ↓MGtt, ↓MGtf, ↓MGft, ↓MGff, ↓NGtt, ↓NGtf, ↓NGft, ↓NGff, ↓PGtt, ↓PGtf, ↓PGft, ↓PGff, ↓BGtt, ↓BGtf, ↓BGft, ↓BGff, ↓CGtt, ↓CGtf, ↓CGft, ↓CGff, ↓IGtt, ↓IGtf, ↓IGft, ↓IGff, ↓PKt, ↓PKf, ↓CDt, ↓CDf, ↓NOTt, ↓NOTf, ↓NK_ptr]
      exact ⟨true, rfl, fun q => by simp at q, hm02⟩
    | false =>
      simp only [↓VG_u, ↓UG_u, ↓MG_u, ↓NG_u, ↓PG_u, ↓BG_u, ↓CG_u, ↓IG_u, ↓VGtt, ↓VGtf, ↓VGft, ↓VGff, ↓UGtt, ↓UGtf, ↓UGft, ↓UGff, ↓MGtt, ↓MGtf, ↓MGft, ↓MGff, ↓NGtt, ↓NGtf, ↓NGft, ↓NGff, ↓PGtt, ↓PGtf, ↓PGft, ↓PGff, ↓BGtt, ↓BGtf, ↓BGft, ↓BGff, ↓CGtt, ↓CGtf, ↓CGft, ↓CGff, ↓IGtt, ↓IGtf, ↓IGft, ↓IGff, ↓PKt, ↓PKf, ↓CDt, ↓CDf, ↓NOTt, ↓NOTf, ↓NK_ptr]
      refine VK_of (hix _) ?_
      rw [fo oAc0]
      simp only [↓(fCr (hat _ hm02)).e]
      obtain ⟨A', c', es', _⟩ := reads_cap (h.rk a hmem)
      rw [es', len_sl vIs]
      by_cases c2 : (8 : Int) < a.ranks.length
      · simp only [↓VG_u, ↓UG_u, ↓MG_u, ↓NG_u, ↓PG_u, ↓BG_u, ↓CG_u, ↓IG_u, ↓VGtt, ↓VGtf, ↓VGft, ↓VGff, ↓UGtt, ↓UGtf, ↓UGft, ↓UGff, ↓MGtt, ↓MGtf, ↓MGft, ↓MGff, ↓NGtt, ↓NGtf, ↓NGft, ↓NGff, ↓PGtt, ↓PGtf, ↓PGft, ↓PGff, ↓BGtt, ↓BGtf, ↓BGft, ↓BGff, ↓CGtt, ↓CGtf, ↓CGft, ↓CGff, ↓IGtt, ↓IGtf, ↓IGft, ↓IGff, ↓PKt, ↓PKf, ↓CDt, ↓CDf, ↓NOTt, ↓NOTf, ↓NK_ptr, ↓GTt c2]
        exact ⟨true, rfl, fun q => by simp at q, hm02⟩
      · simp only [↓VG_u, ↓UG_u, ↓MG_u, ↓NG_u, ↓PG_u, ↓BG_u, ↓CG_u, ↓IG_u, ↓VGtt, ↓VGtf, ↓VGft, ↓VGff, ↓UGtt, ↓UGtf, ↓UGft, ↓UGff, ↓MGtt, ↓MGtf, ↓MGft, ↓MGff, ↓NGtt, ↓NGtf, ↓NGft, ↓NGff, ↓PGtt, ↓PGtf, ↓PGft, ↓PGff, ↓BGtt, ↓BGtf, ↓BGft, ↓BGff, ↓CGtt, ↓CGtf, ↓CGft, ↓CGff, ↓IGtt, ↓IGtf, ↓IGft, ↓IGff, ↓PKt, ↓PKf, ↓CDt, ↓CDf, ↓NOTt, ↓NOTf, ↓NK_ptr, ↓GTf (show (a.ranks.length : Int) ≤ 8 by omega)]
        rw [BK_add, wrap_i (by omega) (by omega)]
        refine ⟨⟨i + 1, hlt, rfl, e0, fun x hx' => ?_, hm02⟩, ?_⟩
        · rw [etk] at hx'
          rcases List.mem_append.1 hx' with z | z
          · exact hall x z
          · rw [List.mem_singleton.1 z]; exact ⟨by omega, hb rfl⟩
        · simp only [sq_n, sq_x, sq_r, bk_n, bk_r, bk_x, rt_r, rt_n, rs_0, rs_t, pk_1, pk_2, up_at, reduceIte, Nat.reduceEqDiff, intOf]; omega
  · obtain rfl : i = l.length := by omega
    rw [decide_eq_false (by omega)]
    refine condF ?_
    rw [sq_x, bk_x, sq_n, dispatcherlaw15_Great_R1_eq]; unfold dispatcherlaw15_Great_R1_F
    rw [List.take_length] at hall
    exact ⟨false, rfl, fun _ => ⟨by omega, fun a ha => (hall a ha).1, fun a ha => (hall a ha).2⟩, hm⟩
end
end Go.Proofs.YtandbmnhghmcgaaDoor.Col
set_option linter.unusedVariables false
set_option linter.unusedSimpArgs false
set_option maxRecDepth 8000
namespace Go.X
open Go Go.RowKit
def awB (i v : Int) : Br := ⟨[], worldL 3, i, ⟨17, 1, 0, v, 0, 0⟩⟩
def awL1 : List Br := [awB 0 5]
def awL2 : List Br := [awB 0 5, awB 1 7]
def awL3 : List Br := [awB 0 5, awB 1 7, awB 2 9]
def awX : Br := ⟨[], worldL 3, 2, ⟨15, 0, 0, 0, 0, 0⟩⟩
def awLD : List Br := [awB 0 5, awB 1 7, awX]
theorem aw1 : bringC [] (awB 0 5) = (awL1, 0, 0) := by kernel_rfl
theorem aw2 : bringC awL1 (awB 1 7) = (awL2, 0, 0) := by kernel_rfl
theorem aw3 : bringC awL2 (awB 2 9) = (awL3, 0, 0) := by kernel_rfl
theorem aw4 : bringC awL2 awX = (awLD, 0, 0) := by kernel_rfl
theorem awE (loose : Bool) : overC loose awL1 [] 0 0 = loose := by cases loose <;> kernel_rfl
theorem awT1 (loose : Bool) : toldC loose awL3 [] 1 0 = ({ zTd with val := 21 }, true) := by cases loose <;> kernel_rfl
theorem awT2 (loose : Bool) : toldC loose awL3 [] 2 0 = (zTd, true) := by cases loose <;> kernel_rfl
theorem awO1 (loose : Bool) : overC loose awL2 [] 1 0 = false := by cases loose <;> kernel_rfl
theorem awO2 (loose : Bool) : overC loose awLD [] 1 0 = false := by cases loose <;> kernel_rfl
theorem awO3 (loose : Bool) : overC loose awLD [] 2 0 = false := by cases loose <;> kernel_rfl
theorem awO4 (loose : Bool) : overC loose awLD [] 0 0 = loose := by cases loose <;> kernel_rfl
theorem awOd : oddC awLD = [[46, 48]] := by
  have h : keysC awLD = [[]] := by
    unfold keysC
    rw [show keysOf awLD = [[]] from by kernel_rfl]
    simp
  have e : ∀ ks, keysC awLD = ks → oddC awLD = ks.flatMap fun key => ((List.range awLD.length).filter fun k : Nat => oddK awLD key k).map fun k : Nat => childK key k := fun ks q => by unfold oddC; rw [q]
  exact (e _ h).trans (by kernel_rfl)
end Go.X
namespace Go.Proofs.YtandbmnhghmcgaaDoor.Col
open Go Go.X Go.RowKit Go.Proofs.YtandbmnhghmcgaaDoor.XF Go.Proofs.YtandbmnhghmcgaaDoor.XG Go.Proofs.YtandbmnhghmcgaaDoor.XI Go.Proofs.YtandbmnhghmcgaaDoor.XK
structure Cs (w0 w : World) (p : Nat) (loose : Bool) (L : List Br) (V : CV) : Prop where
  at_ : CAt w p loose L V
  new : ∀ b, CF p V b → w0.heap.size ≤ b
  mod : Mod none_ w0 w
section
variable {w0 w w' : World} {p : Nat} {loose : Bool} {L : List Br} {V V' : CV}
theorem Cs.calm (h : Cs w0 w p loose L V) (hm : Mod none_ w w') : Cs w0 w' p loose L V := ⟨h.at_.calm hm, h.new, h.mod.trans hm⟩
theorem Cs.put {L' : List Br} (h : Cs w0 w p loose L V) (hc : CAt w' p loose L' V') (hf : CFr p w V w' V') : Cs w0 w' p loose L' V' :=
  ⟨hc, fun b hb => (hf.f b hb).elim (h.new b) fun z => Nat.le_trans h.mod.size z, h.mod.then hf.mod fun i hi z => by have := h.new i z; omega⟩
theorem keepB (h : CAt w p loose L V) (hf : CFr p w V w' V') {t : TypeId} (h1 : t ≠ tC) (h2 : t ≠ tRo) (h3 : t ≠ tPts) (h4 : t ≠ tPt) {b : Nat} {cs : Array Value} (hb : w.heap[b]? = some (.cells cs t (0, 0))) : w'.heap[b]? = some (.cells cs t (0, 0)) :=
  hf.mod.blk hb fun z => h.notT h1 h2 h3 h4 z ⟨_, _, hb⟩
theorem keepR (h : CAt w p loose L V) (hf : CFr p w V w' V') {B n : Nat} {rv : Value} {xs : List Value} (ho : w.ownsRow B tI 1 rv n xs) : w'.ownsRow B tI 1 rv n xs :=
  owns_mod ho hf.mod fun b hb z => h.typ z (isT_own ho hb)
theorem awake_R2 {K : Exit → Sl → World → Prop} {ρ : Sl} {b3 : Nat} {rv : Value} (h : CAt w p loose [] V) (hb3 : w.heap[b3]? = some (.cells #[strV [], rv] tG (0, 0))) (ho : w.ownsRow 0 tI 1 rv 3 (ints (worldL 3)))
    (q2 : ρ 2 = .pointer (some ⟨p, 0, none⟩)) (q3 : ρ 3 = .pointer (some ⟨b3, 0, none⟩))
    (hK : ∀ (ρ' : Sl) (w' : World) V', (∀ i, i < 11 → ρ' i = ρ i) → CAt w' p loose awL1 V' → CFr p w V w' V' → w'.heap[b3]? = some (.cells #[strV [], rv] tG (0, 0)) → w'.ownsRow 0 tI 1 rv 3 (ints (worldL 3)) → K .normal ρ' w') : W fn_ Tryd.prog 107 dispatcherlaw15_awake_R2 K ρ w := by
  have hd : Mod none_ w { w with drawn := w.drawn + 1 } := (Mod.refl _ w).drawn _
  refine dispatcherlaw15_awake_R2_held (D := []) (fun w' => w'.heap[b3]? = some (.cells #[strV [], rv] tG (0, 0))) (hd.blk hb3 id) ?_
  generalize ({ w with drawn := w.drawn + 1 } : World) = wd at *
  unfold dispatcherlaw15_awake_R2_H
  rw [q2, q3]
  refine HV_of (v := grpV [] rv) (fun w' hw => run_ldB (cs := #[strV [], rv]) Tryd.underlying32 rfl iG hw) ?_
  refine CK_st Tryd.func56 rfl rfl (reduce_ok 5) ?_
  rintro _ w2 ⟨rfl, hm2⟩
  have hm02 := hd.trans hm2
  have ho2 := owns_mod ho hm02 fun _ _ => id
  have hb2 := hm02.blk hb3 id
  refine ⟨hb2, ?_⟩
  refine CK_st Tryd.func12 rfl rfl (Bring_ok (b := awB 0 5) (h.calm hm02) (by simp) (reads_of_owns ho2) (by decide)) ?_
  rintro _ w3 ⟨rfl, V', hc, hf⟩
  rw [aw1] at hc ⊢
  have hf' : CFr p w V w3 V' := (CFr.calm hm02).trans hf
  have hb := keepB h hf' (by decide) (by decide) (by decide) (by decide) hb3
  refine ⟨hb, hK _ w3 V' (fun i hi => ?_) hc hf' hb (keepR h hf' ho)⟩
  repeat rw [up_at, if_neg (by omega)]
theorem awake_R5 {K : Exit → Sl → World → Prop} {ρ : Sl} {b3 : Nat} {rv : Value} (h : CAt w p loose awL1 V) (hb3 : w.heap[b3]? = some (.cells #[strV [], rv] tG (0, 0))) (ho : w.ownsRow 0 tI 1 rv 3 (ints (worldL 3)))
    (q2 : ρ 2 = .pointer (some ⟨p, 0, none⟩)) (q3 : ρ 3 = .pointer (some ⟨b3, 0, none⟩))
    (hK : ∀ (ρ' : Sl) (w' : World) V', (∀ i, i < 11 → ρ' i = ρ i) → CAt w' p loose awL2 V' → CFr p w V w' V' → w'.heap[b3]? = some (.cells #[strV [], rv] tG (0, 0)) → w'.ownsRow 0 tI 1 rv 3 (ints (worldL 3)) → K .normal ρ' w') : W fn_ Tryd.prog 107 dispatcherlaw15_awake_R5 K ρ w := by
  have hd : Mod none_ w { w with drawn := w.drawn + 1 } := (Mod.refl _ w).drawn _
  refine dispatcherlaw15_awake_R5_held (D := []) (fun w' => w'.heap[b3]? = some (.cells #[strV [], rv] tG (0, 0))) (hd.blk hb3 id) ?_
  generalize ({ w with drawn := w.drawn + 1 } : World) = wd at *
  unfold dispatcherlaw15_awake_R5_H
  rw [q2, q3]
  refine HV_of (v := grpV [] rv) (fun w' hw => run_ldB (cs := #[strV [], rv]) Tryd.underlying32 rfl iG hw) ?_
  refine CK_st Tryd.func56 rfl rfl (reduce_ok 7) ?_
  rintro _ w2 ⟨rfl, hm2⟩
  have hm02 := hd.trans hm2
  have ho2 := owns_mod ho hm02 fun _ _ => id
  have hb2 := hm02.blk hb3 id
  refine ⟨hb2, ?_⟩
  refine CK_st Tryd.func12 rfl rfl (Bring_ok (b := awB 1 7) (h.calm hm02) (by decide) (reads_of_owns ho2) (by decide)) ?_
  rintro _ w3 ⟨rfl, V', hc, hf⟩
  rw [aw2] at hc ⊢
  have hf' : CFr p w V w3 V' := (CFr.calm hm02).trans hf
  have hb := keepB h hf' (by decide) (by decide) (by decide) (by decide) hb3
  refine ⟨hb, hK _ w3 V' (fun i hi => ?_) hc hf' hb (keepR h hf' ho)⟩
  repeat rw [up_at, if_neg (by omega)]
theorem awake_R7 {K : Exit → Sl → World → Prop} {ρ : Sl} {b3 : Nat} {rv : Value} (h : CAt w p loose awL2 V) (hb3 : w.heap[b3]? = some (.cells #[strV [], rv] tG (0, 0))) (ho : w.ownsRow 0 tI 1 rv 3 (ints (worldL 3)))
    (q2 : ρ 2 = .pointer (some ⟨p, 0, none⟩)) (q3 : ρ 3 = .pointer (some ⟨b3, 0, none⟩))
    (hK : ∀ (ρ' : Sl) (w' : World) V', (∀ i, i < 11 → ρ' i = ρ i) → CAt w' p loose awL3 V' → CFr p w V w' V' → w'.heap[b3]? = some (.cells #[strV [], rv] tG (0, 0)) → w'.ownsRow 0 tI 1 rv 3 (ints (worldL 3)) → K .normal ρ' w') : W fn_ Tryd.prog 107 dispatcherlaw15_awake_R7 K ρ w := by
  have hd : Mod none_ w { w with drawn := w.drawn + 1 } := (Mod.refl _ w).drawn _
  refine dispatcherlaw15_awake_R7_held (D := []) (fun w' => w'.heap[b3]? = some (.cells #[strV [], rv] tG (0, 0))) (hd.blk hb3 id) ?_
  generalize ({ w with drawn := w.drawn + 1 } : World) = wd at *
  unfold dispatcherlaw15_awake_R7_H
  rw [q2, q3]
  refine HV_of (v := grpV [] rv) (fun w' hw => run_ldB (cs := #[strV [], rv]) Tryd.underlying32 rfl iG hw) ?_
  refine CK_st Tryd.func56 rfl rfl (reduce_ok 9) ?_
  rintro _ w2 ⟨rfl, hm2⟩
  have hm02 := hd.trans hm2
  have ho2 := owns_mod ho hm02 fun _ _ => id
  have hb2 := hm02.blk hb3 id
  refine ⟨hb2, ?_⟩
  refine CK_st Tryd.func12 rfl rfl (Bring_ok (b := awB 2 9) (h.calm hm02) (by decide) (reads_of_owns ho2) (by decide)) ?_
  rintro _ w3 ⟨rfl, V', hc, hf⟩
  rw [aw3] at hc ⊢
  have hf' : CFr p w V w3 V' := (CFr.calm hm02).trans hf
  have hb := keepB h hf' (by decide) (by decide) (by decide) (by decide) hb3
  refine ⟨hb, hK _ w3 V' (fun i hi => ?_) hc hf' hb (keepR h hf' ho)⟩
  repeat rw [up_at, if_neg (by omega)]
end
end Go.Proofs.YtandbmnhghmcgaaDoor.Col
set_option linter.unusedVariables false
set_option linter.unusedSimpArgs false
set_option maxRecDepth 8000
namespace Go.Proofs.YtandbmnhghmcgaaDoor.Col
open Go Go.X Go.RowKit Go.Proofs.YtandbmnhghmcgaaDoor.XF Go.Proofs.YtandbmnhghmcgaaDoor.XG Go.Proofs.YtandbmnhghmcgaaDoor.XI Go.Proofs.YtandbmnhghmcgaaDoor.XK
theorem bPtB : Tryd.prog.built tPt [(0, .int .u8 15)] = some (Pt.enc ⟨15, 0, 0, 0, 0, 0⟩).toArray := by kernel_rfl
section
variable {w0 w : World} {p d : Nat} {loose : Bool} {V VD : CV}
theorem awake_R10 {K : Exit → Sl → World → Prop} {ρ : Sl} {b3 : Nat} {rv : Value} {n : Int} (hn : (n == 1) = loose) (hgl : Gl w0) (h : Cs w0 w d loose awL2 VD) (hb3 : w.heap[b3]? = some (.cells #[strV [], rv] tG (0, 0))) (ho : w.ownsRow 0 tI 1 rv 3 (ints (worldL 3)))
    (q1 : ρ 1 = .int .i64 n) (q5 : ρ 5 = .pointer (some ⟨d, 0, none⟩)) (q3 : ρ 3 = .pointer (some ⟨b3, 0, none⟩))
    (hK : ∀ (ρ' : Sl) (w' : World), ρ' 1 = ρ 1 → Mod none_ w0 w' → K .normal ρ' w') : sx fn_ Tryd.prog 107 dispatcherlaw15_awake_R10 K ρ w := by
  rw [dispatcherlaw15_awake_R10_eq]; unfold dispatcherlaw15_awake_R10_F
  rw [q3, q5, q1]
  refine ldS (cs := #[strV [], rv]) rfl Tryd.underlying32 rfl iG hb3 ?_
  rw [build_ok bPtB]
  refine CK_st Tryd.func12 rfl rfl (Bring_ok (b := awX) h.at_ (by decide) (reads_of_owns ho) (by decide)) ?_
  rintro _ w1 ⟨rfl, V1, hc, hf⟩
  rw [aw4] at hc ⊢
  have h1 := h.put hc hf
  refine CK_st Tryd.func24 rfl rfl (Odd_ok h1.at_ (hgl.calm h1.mod) (by decide) (fun b hb => by simp [awLD, awB, awX] at hb; rcases hb with rfl | rfl | rfl <;> simp)) ?_
  rintro x w2 ⟨hx, hm2⟩
  rw [awOd] at hx
  have h2 := h1.calm hm2
  have hrx := reads_of_owns hx
  obtain ⟨A, c, es, _⟩ := reads_cap hrx
  rw [es, len_sl vSs, ← es]
  simp only [↓VG_u, ↓UG_u, ↓MG_u, ↓NG_u, ↓PG_u, ↓BG_u, ↓CG_u, ↓IG_u, ↓VGtt, ↓VGtf, ↓VGft, ↓VGff, ↓UGtt, ↓UGtf, ↓UGft, ↓UGff, ↓MGtt, ↓MGtf, ↓MGft, ↓MGff, ↓NGtt, ↓NGtf, ↓NGft, ↓NGff, ↓PGtt, ↓PGtf, ↓PGft, ↓PGff, ↓BGtt, ↓BGtf, ↓BGft, ↓BGff, ↓CGtt, ↓CGtf, ↓CGft, ↓CGff, ↓IGtt, ↓IGtf, ↓IGft, ↓IGff, ↓PKt, ↓PKf, ↓CDt, ↓CDf, ↓NOTt, ↓NOTf, ↓NK_ptr, ↓NEf (show (([[46, 48]] : List Ky).length : Int) = 1 from rfl)]
  refine ixld vSs cS vS rfl hrx (by decide) (i := 0) (u := strV [46, 48]) rfl fun y => ?_
  rw [show (Value.string { data := #[46, 48] } : Value) = strV [46, 48] from rfl]
  unfold strV
  simp only [↓VG_u, ↓UG_u, ↓MG_u, ↓NG_u, ↓PG_u, ↓BG_u, ↓CG_u, ↓IG_u, ↓VGtt, ↓VGtf, ↓VGft, ↓VGff, ↓UGtt, ↓UGtf, ↓UGft, ↓UGff, ↓MGtt, ↓MGtf, ↓MGft, ↓MGff, ↓NGtt, ↓NGtf, ↓NGft, ↓NGff, ↓PGtt, ↓PGtf, ↓PGft, ↓PGff, ↓BGtt, ↓BGtf, ↓BGft, ↓BGff, ↓CGtt, ↓CGtf, ↓CGft, ↓CGff, ↓IGtt, ↓IGtf, ↓IGft, ↓IGff, ↓PKt, ↓PKf, ↓CDt, ↓CDf, ↓NOTt, ↓NOTf, ↓NK_ptr, ↓SNEf (show (⟨([46, 48] : Ky).toArray⟩ : ByteArray) = ⟨([46, 48] : Ky).toArray⟩ from rfl)]
  refine CK_st Tryd.func31 rfl rfl (Over_ok h2.at_ h2.at_.hG [] 1 0) ?_
  rintro _ w3 ⟨rfl, hm3⟩
  have h3 := h2.calm hm3
  rw [awO2]
  try simp only [↓VG_u, ↓UG_u, ↓MG_u, ↓NG_u, ↓PG_u, ↓BG_u, ↓CG_u, ↓IG_u, ↓VGtt, ↓VGtf, ↓VGft, ↓VGff, ↓UGtt, ↓UGtf, ↓UGft, ↓UGff, ↓MGtt, ↓MGtf, ↓MGft, ↓MGff, ↓NGtt, ↓NGtf, ↓NGft, ↓NGff, ↓PGtt, ↓PGtf, ↓PGft, ↓PGff, ↓BGtt, ↓BGtf, ↓BGft, ↓BGff, ↓CGtt, ↓CGtf, ↓CGft, ↓CGff, ↓IGtt, ↓IGtf, ↓IGft, ↓IGff, ↓PKt, ↓PKf, ↓CDt, ↓CDf, ↓NOTt, ↓NOTf, ↓NK_ptr]
  refine CK_st Tryd.func31 rfl rfl (Over_ok h3.at_ h3.at_.hG [] 2 0) ?_
  rintro _ w4 ⟨rfl, hm4⟩
  have h4 := h3.calm hm4
  rw [awO3]
  try simp only [↓VG_u, ↓UG_u, ↓MG_u, ↓NG_u, ↓PG_u, ↓BG_u, ↓CG_u, ↓IG_u, ↓VGtt, ↓VGtf, ↓VGft, ↓VGff, ↓UGtt, ↓UGtf, ↓UGft, ↓UGff, ↓MGtt, ↓MGtf, ↓MGft, ↓MGff, ↓NGtt, ↓NGtf, ↓NGft, ↓NGff, ↓PGtt, ↓PGtf, ↓PGft, ↓PGff, ↓BGtt, ↓BGtf, ↓BGft, ↓BGff, ↓CGtt, ↓CGtf, ↓CGft, ↓CGff, ↓IGtt, ↓IGtf, ↓IGft, ↓IGff, ↓PKt, ↓PKf, ↓CDt, ↓CDf, ↓NOTt, ↓NOTf, ↓NK_ptr]
  refine CK_st Tryd.func31 rfl rfl (Over_ok h4.at_ h4.at_.hG [] 0 0) ?_
  rintro _ w5 ⟨rfl, hm5⟩
  have h5 := h4.calm hm5
  rw [awO4]
  try simp only [↓VG_u, ↓UG_u, ↓MG_u, ↓NG_u, ↓PG_u, ↓BG_u, ↓CG_u, ↓IG_u, ↓VGtt, ↓VGtf, ↓VGft, ↓VGff, ↓UGtt, ↓UGtf, ↓UGft, ↓UGff, ↓MGtt, ↓MGtf, ↓MGft, ↓MGff, ↓NGtt, ↓NGtf, ↓NGft, ↓NGff, ↓PGtt, ↓PGtf, ↓PGft, ↓PGff, ↓BGtt, ↓BGtf, ↓BGft, ↓BGff, ↓CGtt, ↓CGtf, ↓CGft, ↓CGff, ↓IGtt, ↓IGtf, ↓IGft, ↓IGff, ↓PKt, ↓PKf, ↓CDt, ↓CDf, ↓NOTt, ↓NOTf, ↓NK_ptr]
  rw [BK_eql, hn, BK_neqB vB, show (!(loose == loose)) = false by simp]
  rw [dispatcherlaw15_awake_R11_eq]; unfold dispatcherlaw15_awake_R11_F
  refine condF ?_
  refine hK _ _ ?_ h5.mod
  repeat rw [up_at, if_neg (by omega)]
theorem awake_R8 {K : Exit → Sl → World → Prop} {ρ : Sl} {b3 : Nat} {rv : Value} {n : Int} (hn : (n == 1) = loose) (hgl : Gl w0) (hc : Cs w0 w p loose awL3 V) (h : Cs w0 w d loose awL2 VD) (hb3 : w.heap[b3]? = some (.cells #[strV [], rv] tG (0, 0))) (ho : w.ownsRow 0 tI 1 rv 3 (ints (worldL 3)))
    (q1 : ρ 1 = .int .i64 n) (q2 : ρ 2 = .pointer (some ⟨p, 0, none⟩)) (q4 : ρ 4 = .bool loose) (q5 : ρ 5 = .pointer (some ⟨d, 0, none⟩)) (q3 : ρ 3 = .pointer (some ⟨b3, 0, none⟩))
    (hK : ∀ (ρ' : Sl) (w' : World), ρ' 1 = ρ 1 → Mod none_ w0 w' → K .normal ρ' w') : sx fn_ Tryd.prog 107 dispatcherlaw15_awake_R8 K ρ w := by
  rw [dispatcherlaw15_awake_R8_eq]; unfold dispatcherlaw15_awake_R8_F
  rw [q2, q1, q4, q5]
  have hC : ∀ b ∈ awL3, -9223372036854775808 ≤ b.p.color ∧ b.p.color ≤ 9223372036854775807 := fun b hb => by simp [awL3, awB] at hb; rcases hb with rfl | rfl | rfl <;> simp
  have hKy : ∀ b ∈ awL3, b.key.length ≤ 1000000 := fun b hb => by simp [awL3, awB] at hb; rcases hb with rfl | rfl | rfl <;> simp
  refine CK_st Tryd.func27 rfl rfl (Told_ok hc.at_ (hgl.calm hc.mod) (by decide) hKy hC [] 1 0) ?_
  rintro _ w1 ⟨u, rfl, hu, hm1⟩
  rw [awT1] at hu ⊢
  obtain ⟨row, rks, rfl, hr1, hr2⟩ := hu
  rw [extract_ok (v := .agg (tdCells { zTd with val := 21 } row rks)) rfl, extract_ok (v := .bool true) rfl]
  obtain ⟨A1, c1, es1, _⟩ := reads_cap (reads_of_owns hr1)
  obtain ⟨A2, c2, es2, _⟩ := reads_cap (reads_of_owns hr2)
  refine lcl_k (cs := tdCells { zTd with val := 21 } row rks) zTd_z _ iTd rfl (by rw [es1, es2]; exact td_one _ _ _ _ _ _ _) fun w2 hb2 hm2 hz2 => ?_
  have hc2 := (hc.calm hm1).calm hm2
  refine CK_st Tryd.func27 rfl rfl (Told_ok hc2.at_ (hgl.calm hc2.mod) (by decide) hKy hC [] 2 0) ?_
  rintro _ w3 ⟨u, rfl, hu, hm3⟩
  rw [awT2] at hu ⊢
  obtain ⟨row', rks', rfl, hr1', hr2'⟩ := hu
  rw [extract_ok (v := .agg (tdCells zTd row' rks')) rfl, extract_ok (v := .bool true) rfl]
  obtain ⟨A3, c3, es3, _⟩ := reads_cap (reads_of_owns hr1')
  obtain ⟨A4, c4, es4, _⟩ := reads_cap (reads_of_owns hr2')
  refine lcl_k (cs := tdCells zTd row' rks') zTd_z _ iTd rfl (by rw [es3, es4]; exact td_one _ _ _ _ _ _ _) fun w4 hb4 hm4 hz4 => ?_
  have hm14 := (hm1.trans hm2).trans (hm3.trans hm4)
  have hb24 := (hm3.trans hm4).blk hb2 id
  have h4 := h.calm hm14
  rw [BK_eql, hn, BK_neqB vB, show (!(loose == loose)) = false by simp]
  simp only [↓VG_u, ↓UG_u, ↓MG_u, ↓NG_u, ↓PG_u, ↓BG_u, ↓CG_u, ↓IG_u, ↓VGtt, ↓VGtf, ↓VGft, ↓VGff, ↓UGtt, ↓UGtf, ↓UGft, ↓UGff, ↓MGtt, ↓MGtf, ↓MGft, ↓MGff, ↓NGtt, ↓NGtf, ↓NGft, ↓NGff, ↓PGtt, ↓PGtf, ↓PGft, ↓PGff, ↓BGtt, ↓BGtf, ↓BGft, ↓BGff, ↓CGtt, ↓CGtf, ↓CGft, ↓CGff, ↓IGtt, ↓IGtf, ↓IGft, ↓IGff, ↓PKt, ↓PKf, ↓CDt, ↓CDf, ↓NOTt, ↓NOTf, ↓NK_ptr, ↓(fT0 hb24).e, ↓NEf (show (21 : Int) = 21 from rfl)]
  simp only [↓(fT0 hb4).e, ↓NEf (show (zTd.val : Int) = 0 from rfl), ↓VG_u, ↓UG_u, ↓MG_u, ↓NG_u, ↓PG_u, ↓BG_u, ↓CG_u, ↓IG_u, ↓VGtt, ↓VGtf, ↓VGft, ↓VGff, ↓UGtt, ↓UGtf, ↓UGft, ↓UGff, ↓MGtt, ↓MGtf, ↓MGft, ↓MGff, ↓NGtt, ↓NGtf, ↓NGft, ↓NGff, ↓PGtt, ↓PGtf, ↓PGft, ↓PGff, ↓BGtt, ↓BGtf, ↓BGft, ↓BGff, ↓CGtt, ↓CGtf, ↓CGft, ↓CGff, ↓IGtt, ↓IGtf, ↓IGft, ↓IGff, ↓PKt, ↓PKf, ↓CDt, ↓CDf, ↓NOTt, ↓NOTf, ↓NK_ptr]
  rw [BK_eqlP uC]
  simp only [↓VG_u, ↓UG_u, ↓MG_u, ↓NG_u, ↓PG_u, ↓BG_u, ↓CG_u, ↓IG_u, ↓VGtt, ↓VGtf, ↓VGft, ↓VGff, ↓UGtt, ↓UGtf, ↓UGft, ↓UGff, ↓MGtt, ↓MGtf, ↓MGft, ↓MGff, ↓NGtt, ↓NGtf, ↓NGft, ↓NGff, ↓PGtt, ↓PGtf, ↓PGft, ↓PGff, ↓BGtt, ↓BGtf, ↓BGft, ↓BGff, ↓CGtt, ↓CGtf, ↓CGft, ↓CGff, ↓IGtt, ↓IGtf, ↓IGft, ↓IGff, ↓PKt, ↓PKf, ↓CDt, ↓CDf, ↓NOTt, ↓NOTf, ↓NK_ptr, Option.isNone_some]
  refine CK_st Tryd.func31 rfl rfl (Over_ok h4.at_ h4.at_.hG [] 1 0) ?_
  rintro _ w5 ⟨rfl, hm5⟩
  rw [awO1]
  try simp only [↓VG_u, ↓UG_u, ↓MG_u, ↓NG_u, ↓PG_u, ↓BG_u, ↓CG_u, ↓IG_u, ↓VGtt, ↓VGtf, ↓VGft, ↓VGff, ↓UGtt, ↓UGtf, ↓UGft, ↓UGff, ↓MGtt, ↓MGtf, ↓MGft, ↓MGff, ↓NGtt, ↓NGtf, ↓NGft, ↓NGff, ↓PGtt, ↓PGtf, ↓PGft, ↓PGff, ↓BGtt, ↓BGtf, ↓BGft, ↓BGff, ↓CGtt, ↓CGtf, ↓CGft, ↓CGff, ↓IGtt, ↓IGtf, ↓IGft, ↓IGff, ↓PKt, ↓PKf, ↓CDt, ↓CDf, ↓NOTt, ↓NOTf, ↓NK_ptr]
  rw [dispatcherlaw15_awake_R9_eq]; unfold dispatcherlaw15_awake_R9_F
  have h5 := h4.calm hm5
  have hm15 := hm14.trans hm5
  simp only [sq_n, sq_x, sq_r, bk_n, bk_r, bk_x, rt_r, rt_n, rs_0, rs_t, pk_1, pk_2, up_at, reduceIte, Nat.reduceEqDiff, ↓VG_u, ↓UG_u, ↓MG_u, ↓NG_u, ↓PG_u, ↓BG_u, ↓CG_u, ↓IG_u, ↓VGtt, ↓VGtf, ↓VGft, ↓VGff, ↓UGtt, ↓UGtf, ↓UGft, ↓UGff, ↓MGtt, ↓MGtf, ↓MGft, ↓MGff, ↓NGtt, ↓NGtf, ↓NGft, ↓NGff, ↓PGtt, ↓PGtf, ↓PGft, ↓PGff, ↓BGtt, ↓BGtf, ↓BGft, ↓BGff, ↓CGtt, ↓CGtf, ↓CGft, ↓CGff, ↓IGtt, ↓IGtf, ↓IGft, ↓IGff, ↓PKt, ↓PKf, ↓CDt, ↓CDf, ↓NOTt, ↓NOTf, ↓NK_ptr]
  try rw [sq_n]
  refine awake_R10 hn hgl h5 (hm15.blk hb3 id) (owns_mod ho hm15 fun _ _ => id) ?_ ?_ ?_ ?_
  · exact q1
  · exact q5
  · exact q3
  intro ρ' w' s hm'
  exact hK ρ' w' s hm'
end
end Go.Proofs.YtandbmnhghmcgaaDoor.Col
set_option linter.unusedVariables false
set_option linter.unusedSimpArgs false
set_option maxRecDepth 8000
namespace Go.Proofs.YtandbmnhghmcgaaDoor.Col
open Go Go.X Go.RowKit Go.Proofs.YtandbmnhghmcgaaDoor.XF Go.Proofs.YtandbmnhghmcgaaDoor.XG Go.Proofs.YtandbmnhghmcgaaDoor.XI Go.Proofs.YtandbmnhghmcgaaDoor.XK
section
variable {w : World}
theorem awake_ok (hgl : Gl w) : Rt Tryd.prog 26 #[] w fun v w' => v = .bool true ∧ Mod none_ w w' := by
  refine dispatcherlaw15_awake_calls ?_
  unfold dispatcherlaw15_awake_F
  refine W_loop dispatcherlaw15_awake_L0_ok (fun ρ w' => ∃ i : Nat, i ≤ 2 ∧ ρ 1 = .int .i64 i ∧ Mod none_ w w') (fun ρ _ => 2 - (intOf (ρ 1)).toNat)
    ⟨0, Nat.zero_le _, rfl, Mod.refl _ _⟩ ?_
  rintro ρ w1 ⟨i, hi, e1, hm1⟩
  rw [dispatcherlaw15_awake_L0_eq]; unfold dispatcherlaw15_awake_L0_F
  rw [e1, BK_lss]
  by_cases hlt : i < 2
  case neg =>
    obtain rfl : i = 2 := by omega
    rw [decide_eq_false (by omega)]
    refine condF ?_
    rw [sq_x, bk_x, sq_n, dispatcherlaw15_awake_R1_eq]; unfold dispatcherlaw15_awake_R1_F
    exact ⟨rfl, hm1⟩
  rw [decide_eq_true (by omega)]
  refine condT ?_
  rw [BK_eql]
  obtain ⟨loose, hn⟩ : ∃ loose, ((i : Int) == 1) = loose := ⟨_, rfl⟩
  rw [hn]
  refine CK_st Tryd.func11 rfl rfl (New_ok w1 loose) ?_
  rintro _ w2 ⟨p, V, rfl, hc, _, _, hnew, hm2⟩
  rw [BK_eqlP uC]
  simp only [Option.isNone_some]
  refine condF ?_
  have hc2 : Cs w w2 p loose [] V := ⟨hc, fun b hb => Nat.le_trans hm1.size (hnew b hb), hm1.trans hm2⟩
  refine CK_st Tryd.func30 rfl rfl (ranks_ok (n := 3) (by decide) (by decide)) ?_
  rintro _ w3 ⟨rv, rfl, ho, hm3⟩
  obtain ⟨A', c', e', _⟩ := reads_cap (reads_of_owns ho)
  refine lcl_k (cs := #[strV [], rv]) zG _ iG rfl (by rw [e']; exact grp_one _ _ _ _) fun w4 hb4 hm4 hz4 => ?_
  have hc4 := (hc2.calm hm3).calm hm4
  have ho4 : w4.ownsRow 0 tI 1 rv 3 (ints (worldL 3)) := owns_base (owns_mod ho hm4 fun _ _ => id) (Nat.zero_le _)
  refine awake_R2 (b3 := w3.heap.size) (rv := rv) hc4.at_ hb4 ho4 rfl rfl ?_
  intro ρ5 w5 V5 s5 hA5 hf5 hb5 ho5
  have hc5 := hc4.put hA5 hf5
  have q5 : ρ5 1 = .int .i64 i ∧ ρ5 2 = .pointer (some ⟨p, 0, none⟩) ∧ ρ5 3 = .pointer (some ⟨w3.heap.size, 0, none⟩) := ⟨(s5 1 (by decide)).trans e1, s5 2 (by decide), s5 3 (by decide)⟩
  rw [sq_n, dispatcherlaw15_awake_R3_eq]; unfold dispatcherlaw15_awake_R3_F
  rw [q5.2.1]
  refine CK_st Tryd.func31 rfl rfl (Over_ok hc5.at_ hc5.at_.hG [] 0 0) ?_
  rintro _ w6 ⟨rfl, hm6⟩
  rw [awE]
  have hc6 := hc5.calm hm6
  refine awake_R5 (b3 := w3.heap.size) (rv := rv) hc6.at_ (hm6.blk hb5 id) (owns_mod ho5 hm6 fun _ _ => id) ?_ ?_ ?_
  · exact q5.2.1
  · exact q5.2.2
  intro ρ7 w7 V7 s7 hA7 hf7 hb7 ho7
  have hc7 := hc6.put hA7 hf7
  have q7 : ρ7 1 = .int .i64 i ∧ ρ7 2 = .pointer (some ⟨p, 0, none⟩) ∧ ρ7 3 = .pointer (some ⟨w3.heap.size, 0, none⟩) ∧ ρ7 4 = .bool loose := ⟨(s7 1 (by decide)).trans q5.1, (s7 2 (by decide)).trans q5.2.1, (s7 3 (by decide)).trans q5.2.2, s7 4 (by decide)⟩
  rw [sq_n, dispatcherlaw15_awake_R6_eq]; unfold dispatcherlaw15_awake_R6_F
  rw [q7.2.1]
  refine CK_st Tryd.func15 rfl rfl (Copy_ok hc7.at_ (by decide)) ?_
  rintro _ w8 ⟨d, VD, rfl, hD, hDn, hm8⟩
  have hc8 := hc7.calm hm8
  have hd8 : Cs w w8 d loose awL2 VD := ⟨hD, fun b hb => Nat.le_trans hc7.mod.size (hDn b hb), hc8.mod⟩
  refine awake_R7 (b3 := w3.heap.size) (rv := rv) hc8.at_ (hm8.blk hb7 id) (owns_mod ho7 hm8 fun _ _ => id) ?_ ?_ ?_
  · exact q7.2.1
  · exact q7.2.2.1
  intro ρ9 w9 V9 s9 hA9 hf9 hb9 ho9
  have hc9 := hc8.put hA9 hf9
  have hd9 : Cs w w9 d loose awL2 VD := ⟨hd8.at_.beside hc8.at_ (fun b hb z => by have := hDn b hb; have := hc7.at_.old z; omega) hf9, hd8.new, hc9.mod⟩
  have q9 : ρ9 1 = .int .i64 i ∧ ρ9 2 = .pointer (some ⟨p, 0, none⟩) ∧ ρ9 3 = .pointer (some ⟨w3.heap.size, 0, none⟩) ∧ ρ9 4 = .bool loose ∧ ρ9 5 = .pointer (some ⟨d, 0, none⟩) := ⟨(s9 1 (by decide)).trans q7.1, (s9 2 (by decide)).trans q7.2.1, (s9 3 (by decide)).trans q7.2.2.1, (s9 4 (by decide)).trans q7.2.2.2, s9 5 (by decide)⟩
  rw [sq_n]
  refine awake_R8 (b3 := w3.heap.size) (rv := rv) hn hgl hc9 hd9 hb9 ho9 q9.1 q9.2.1 q9.2.2.2.1 q9.2.2.2.2 q9.2.2.1 ?_
  intro ρ' w' s' hm'
  rw [bk_n, sq_n, dispatcherlaw15_awake_R4_eq]; unfold dispatcherlaw15_awake_R4_F
  rw [s', q9.1, BK_add, wrap_i (by omega) (by omega)]
  refine ⟨⟨i + 1, hlt, rfl, hm'⟩, ?_⟩
  simp only [sq_n, sq_x, sq_r, bk_n, bk_r, bk_x, rt_r, rt_n, rs_0, rs_t, pk_1, pk_2, up_at, reduceIte, Nat.reduceEqDiff, intOf]; omega
end
end Go.Proofs.YtandbmnhghmcgaaDoor.Col
set_option linter.unusedVariables false
set_option linter.unusedSimpArgs false
set_option maxRecDepth 8000
namespace Go.X
open Go Go.RowKit
end Go.X
namespace Go.Proofs.YtandbmnhghmcgaaDoor.Col
open Go Go.X Go.RowKit Go.Proofs.YtandbmnhghmcgaaDoor.XF Go.Proofs.YtandbmnhghmcgaaDoor.XG Go.Proofs.YtandbmnhghmcgaaDoor.XI Go.Proofs.YtandbmnhghmcgaaDoor.XK
abbrev PtsR (w : World) (v : Value) (l : List Pt) : Prop := reads w 6 v l.length (l.flatMap Pt.enc)
section
variable {w : World}
theorem PtsR.calm {w' : World} {v : Value} {l : List Pt} (h : PtsR w v l) (hm : Mod none_ w w') : PtsR w' v l := reads_mod h hm (fun _ _ _ => id)
end
end Go.Proofs.YtandbmnhghmcgaaDoor.Col
set_option linter.unusedVariables false
set_option linter.unusedSimpArgs false
set_option maxRecDepth 8000
namespace Go.X
open Go Go.RowKit
end Go.X
namespace Go.Proofs.YtandbmnhghmcgaaDoor.Col
open Go Go.X Go.RowKit Go.Proofs.YtandbmnhghmcgaaDoor.XF Go.Proofs.YtandbmnhghmcgaaDoor.XG Go.Proofs.YtandbmnhghmcgaaDoor.XI Go.Proofs.YtandbmnhghmcgaaDoor.XK
section
variable {w : World}
end
end Go.Proofs.YtandbmnhghmcgaaDoor.Col
set_option linter.unusedVariables false
set_option linter.unusedSimpArgs false
set_option maxRecDepth 8000
namespace Go.Proofs.YtandbmnhghmcgaaDoor.Col
open Go Go.X Go.RowKit Go.Proofs.YtandbmnhghmcgaaDoor.XF Go.Proofs.YtandbmnhghmcgaaDoor.XG Go.Proofs.YtandbmnhghmcgaaDoor.XI Go.Proofs.YtandbmnhghmcgaaDoor.XK
section
variable {w0 w : World} {p : Nat} {loose : Bool} {l : List Pt} {lacks : Int} {v : Value}
structure AlS (loose : Bool) (v : Value) (lacks : Int) (p : Nat) (ρ : Sl) : Prop where
  h0 : ρ 0 = .bool loose
  h1 : ρ 1 = v
  h2 : ρ 2 = .int .i64 lacks
  h7 : ρ 7 = .pointer (some ⟨p, 0, none⟩)
theorem AlS.of {ρ ρ' : Sl} (h : AlS loose v lacks p ρ) (hs : ∀ i, i < 8 → ρ' i = ρ i) : AlS loose v lacks p ρ' := ⟨(hs 0 (by decide)).trans h.h0, (hs 1 (by decide)).trans h.h1, (hs 2 (by decide)).trans h.h2, (hs 7 (by decide)).trans h.h7⟩
end
end Go.Proofs.YtandbmnhghmcgaaDoor.Col
set_option linter.unusedVariables false
set_option linter.unusedSimpArgs false
set_option maxRecDepth 8000
namespace Go.Proofs.YtandbmnhghmcgaaDoor.Col
open Go Go.X Go.RowKit Go.Proofs.YtandbmnhghmcgaaDoor.XF Go.Proofs.YtandbmnhghmcgaaDoor.XG Go.Proofs.YtandbmnhghmcgaaDoor.XI Go.Proofs.YtandbmnhghmcgaaDoor.XK
section
variable {w0 w : World} {p : Nat} {loose : Bool} {l : List Pt} {lacks : Int} {v : Value}
end
end Go.Proofs.YtandbmnhghmcgaaDoor.Col
set_option linter.unusedVariables false
set_option linter.unusedSimpArgs false
set_option maxRecDepth 8000
namespace Go.Proofs.YtandbmnhghmcgaaDoor.Col
open Go Go.X Go.RowKit Go.Proofs.YtandbmnhghmcgaaDoor.XF Go.Proofs.YtandbmnhghmcgaaDoor.XG Go.Proofs.YtandbmnhghmcgaaDoor.XI Go.Proofs.YtandbmnhghmcgaaDoor.XK
section
variable {w : World}
end
end Go.Proofs.YtandbmnhghmcgaaDoor.Col
set_option linter.unusedVariables false
set_option linter.unusedSimpArgs false
set_option maxRecDepth 8000
namespace Go.X
open Go Go.RowKit
theorem ints_app (a b : List Int) : ints (a ++ b) = ints a ++ ints b := by unfold ints; rw [List.map_append]
end Go.X
namespace Go.Proofs.YtandbmnhghmcgaaDoor.Col
open Go Go.X Go.RowKit Go.Proofs.YtandbmnhghmcgaaDoor.XF Go.Proofs.YtandbmnhghmcgaaDoor.XG Go.Proofs.YtandbmnhghmcgaaDoor.XI Go.Proofs.YtandbmnhghmcgaaDoor.XK
end Go.Proofs.YtandbmnhghmcgaaDoor.Col
set_option linter.unusedVariables false
set_option linter.unusedSimpArgs false
set_option maxRecDepth 8000
namespace Go.X
open Go Go.RowKit
theorem HX_of {P : Program} {S : World → Prop} {K : Value → Prop} {vs : Array Value} {i : Nat} {v : Value} (h : vs[i]? = some v) (hk : K v) : HK P S (do pure (Next.value (← Instr.extract (.tuple vs) i))) K :=
  HV_of (v := v) (fun w _ => by simp [Instr.extract, h]) hk
end Go.X
namespace Go.Proofs.YtandbmnhghmcgaaDoor.Col
open Go Go.X Go.RowKit Go.Proofs.YtandbmnhghmcgaaDoor.XF Go.Proofs.YtandbmnhghmcgaaDoor.XG Go.Proofs.YtandbmnhghmcgaaDoor.XI Go.Proofs.YtandbmnhghmcgaaDoor.XK
section
variable {w0 w w' : World} {p : Nat} {loose : Bool} {L : List Br} {V V' : CV}
end
end Go.Proofs.YtandbmnhghmcgaaDoor.Col
set_option linter.unusedVariables false
set_option linter.unusedSimpArgs false
set_option maxRecDepth 8000
namespace Go.X
open Go Go.RowKit
def u8L (l : List Int) : List Value := l.map fun n => .int .u8 n
end Go.X
namespace Go.Proofs.YtandbmnhghmcgaaDoor.Col
open Go Go.X Go.RowKit Go.Proofs.YtandbmnhghmcgaaDoor.XF Go.Proofs.YtandbmnhghmcgaaDoor.XG Go.Proofs.YtandbmnhghmcgaaDoor.XI Go.Proofs.YtandbmnhghmcgaaDoor.XK
section
variable {w0 w : World} {p : Nat} {loose : Bool} {L : List Br} {V : CV}
structure AoS (p n : Nat) (v tv : Value) (ρ : Sl) : Prop where
  h0 : ρ 0 = .pointer (some ⟨p, 0, none⟩)
  h1 : ρ 1 = .int .i64 n
  h2 : ρ 2 = v
  h3 : ρ 3 = tv
theorem AoS.of {n : Nat} {v tv : Value} {ρ ρ' : Sl} (h : AoS p n v tv ρ) (hs : ∀ i, i < 4 → ρ' i = ρ i) : AoS p n v tv ρ' := ⟨(hs 0 (by decide)).trans h.h0, (hs 1 (by decide)).trans h.h1, (hs 2 (by decide)).trans h.h2, (hs 3 (by decide)).trans h.h3⟩
theorem AoS.same {n : Nat} {v tv : Value} {ρ ρ' : Sl} (h : AoS p n v tv ρ) (h0 : ρ' 0 = ρ 0) (h1 : ρ' 1 = ρ 1) (h2 : ρ' 2 = ρ 2) (h3 : ρ' 3 = ρ 3) : AoS p n v tv ρ' := ⟨h0.trans h.h0, h1.trans h.h1, h2.trans h.h2, h3.trans h.h3⟩
end
end Go.Proofs.YtandbmnhghmcgaaDoor.Col
set_option linter.unusedVariables false
set_option linter.unusedSimpArgs false
set_option maxRecDepth 8000
namespace Go.Proofs.YtandbmnhghmcgaaDoor.Col
open Go Go.X Go.RowKit Go.Proofs.YtandbmnhghmcgaaDoor.XF Go.Proofs.YtandbmnhghmcgaaDoor.XG Go.Proofs.YtandbmnhghmcgaaDoor.XI Go.Proofs.YtandbmnhghmcgaaDoor.XK
structure Trn (w : World) (tv : Value) (ts : List Int) : Prop where
  row : reads w 1 tv ts.length (u8L ts)
  lo : ∀ t ∈ ts, 0 ≤ t ∧ t ≤ 255
theorem Trn.calm {w w' : World} {tv : Value} {ts : List Int} (h : Trn w tv ts) (hm : Mod none_ w w') : Trn w' tv ts := ⟨reads_mod h.row hm (fun _ _ _ => id), h.lo⟩
section
variable {w0 w : World} {p : Nat} {loose : Bool} {V : CV}
end
end Go.Proofs.YtandbmnhghmcgaaDoor.Col
set_option linter.unusedVariables false
set_option linter.unusedSimpArgs false
set_option maxRecDepth 8000
namespace Go.X
open Go Go.RowKit
theorem FullL.clr {l : List Pt} {L : List Br} (h : FullL l L) (hc : ∀ q ∈ l, -9223372036854775808 ≤ q.color ∧ q.color ≤ 9223372036854775807) : ∀ b ∈ L, -9223372036854775808 ≤ b.p.color ∧ b.p.color ≤ 9223372036854775807 := by
  intro b hb
  obtain ⟨hk, hr⟩ := h.wd.all b hb
  have hrk := (h.inv.ok b hb).2.1
  rw [hr] at hrk
  obtain ⟨h0, h1⟩ := worldL_mem.1 hrk
  have hp := h.pt b.rank.toNat (by omega)
  rw [Int.toNat_of_nonneg h0] at hp
  have hm : b.p ∈ partsC L [] b.rank := by
    unfold partsC
    refine List.mem_map.2 ⟨b, List.mem_filter.2 ⟨hb, ?_⟩, rfl⟩
    simp [atK, hk]
  rw [hp, List.mem_singleton] at hm
  rw [hm]
  refine hc _ ?_
  rw [List.getD_eq_getElem?_getD, List.getElem?_eq_getElem (by omega)]
  exact List.getElem_mem _
theorem FullL.key {l : List Pt} {L : List Br} (h : FullL l L) : ∀ b ∈ L, b.key.length ≤ 1000000 := fun b hb => by rw [(h.wd.all b hb).1]; simp
end Go.X
namespace Go.Proofs.YtandbmnhghmcgaaDoor.Col
open Go Go.X Go.RowKit Go.Proofs.YtandbmnhghmcgaaDoor.XF Go.Proofs.YtandbmnhghmcgaaDoor.XG Go.Proofs.YtandbmnhghmcgaaDoor.XI Go.Proofs.YtandbmnhghmcgaaDoor.XK
section
variable {w : World}
theorem owns_max {B : Nat} {e : TypeId} {s : Nat} {v : Value} {n : Nat} {xs : List Value} (h : w.ownsRow B e s v n xs) : n ≤ maxLen := by
  obtain ⟨_, ⟨_, rfl⟩ | ⟨g, cap, cur, _, _, _, hn, hm, _⟩⟩ := h
  · exact Nat.zero_le _
  · exact Nat.le_trans hn hm
theorem TdAt.max {B : Nat} {v : Value} {t : Td} (h : TdAt w B v t) : t.row.length ≤ maxLen ∧ t.ranks.length ≤ maxLen := by
  obtain ⟨row, rks, _, h1, h2⟩ := h
  exact ⟨owns_max h1, owns_max h2⟩
theorem TdAt.one {B : Nat} {v : Value} {t : Td} (h : TdAt w B v t) : ∃ row rks, v = .agg (tdCells t row rks) ∧ (tdCells t row rks).all (·.oneCell') = true := by
  obtain ⟨row, rks, e, h1, h2⟩ := h
  obtain ⟨A1, c1, e1, _⟩ := reads_cap (reads_of_owns h1)
  obtain ⟨A2, c2, e2, _⟩ := reads_cap (reads_of_owns h2)
  exact ⟨row, rks, e, by rw [e1, e2]; exact td_one _ _ _ _ _ _ _⟩
end
end Go.Proofs.YtandbmnhghmcgaaDoor.Col
set_option linter.unusedVariables false
set_option linter.unusedSimpArgs false
set_option maxRecDepth 8000
namespace Go.X
open Go Go.RowKit
structure Wi where
  n : Nat
  k : Int
  row : Value
  rks : Value
  t : Td
def Wi.enc (x : Wi) : List Value := (tdCells x.t x.row x.rks).toList
theorem Wi.enc_len (x : Wi) : x.enc.length = 4 + 1 := rfl
end Go.X
namespace Go.Proofs.YtandbmnhghmcgaaDoor.Col
open Go Go.X Go.RowKit Go.Proofs.YtandbmnhghmcgaaDoor.XF Go.Proofs.YtandbmnhghmcgaaDoor.XG Go.Proofs.YtandbmnhghmcgaaDoor.XI Go.Proofs.YtandbmnhghmcgaaDoor.XK
abbrev tTds : TypeId := 54
theorem vTds : Tryd.prog.underlying tTds = some (.slice tTd) := Tryd.underlying54
theorem cTd : Tryd.prog.cellsOf tTd = 4 + 1 := by kernel_rfl
theorem eTds : elemOk Tryd.prog tTds tTd 5 80 = true := by kernel_rfl
structure WiAt (w : World) (B : Nat) (hv kv : Value) (x : Wi) : Prop where
  row : w.ownsRow B tL 1 x.row x.t.row.length (ints x.t.row)
  rks : w.ownsRow B tI 1 x.rks x.t.ranks.length (ints x.t.ranks)
  ne : ∀ b, sb hv b ∨ sb kv b → ¬ sb x.rks b
structure Was (w : World) (B : Nat) (wv hv kv : Value) (xs : List Wi) : Prop where
  was : w.ownsRow B tTd 5 wv xs.length (xs.flatMap Wi.enc)
  whose : w.ownsRow B tI 1 hv xs.length (ints (xs.map fun x => (x.n : Int)))
  which : w.ownsRow B tI 1 kv xs.length (ints (xs.map (·.k)))
  ne : ∀ b, sb hv b → ¬ sb kv b
  td : ∀ x ∈ xs, WiAt w B hv kv x
section
variable {w w' : World} {B : Nat} {wv hv kv : Value} {xs : List Wi}
theorem Was.nil (w : World) (B : Nat) : Was w B nilS nilS nilS [] := ⟨World.ownsRow_nil _ _ _ _, World.ownsRow_nil _ _ _ _, World.ownsRow_nil _ _ _ _, fun b h => (by cases h), fun x hx => by cases hx⟩
theorem Was.mod {S : Nat → Prop} (h : Was w B wv hv kv xs) (hm : Mod S w w') (h1 : ∀ b, isT tTd w b → ¬ S b) (h2 : ∀ b, isT tI w b → ¬ S b) (h3 : ∀ b, isT tL w b → ¬ S b) : Was w' B wv hv kv xs :=
  ⟨owns_mod h.was hm fun b hb => h1 b (isT_own h.was hb), owns_mod h.whose hm fun b hb => h2 b (isT_own h.whose hb), owns_mod h.which hm fun b hb => h2 b (isT_own h.which hb), h.ne,
    fun x hx => ⟨owns_mod (h.td x hx).row hm fun b hb => h3 b (isT_own (h.td x hx).row hb), owns_mod (h.td x hx).rks hm fun b hb => h2 b (isT_own (h.td x hx).rks hb), (h.td x hx).ne⟩⟩
theorem Was.calm (h : Was w B wv hv kv xs) (hm : Mod none_ w w') : Was w' B wv hv kv xs := h.mod hm (fun _ _ => id) (fun _ _ => id) (fun _ _ => id)
theorem Was.bring {p : Nat} {loose : Bool} {L : List Br} {V V' : CV} (h : Was w B wv hv kv xs) (hc : CAt w p loose L V) (hf : CFr p w V w' V') : Was w' B wv hv kv xs :=
  h.mod hf.mod (fun b hb z => hc.notT (by decide) (by decide) (by decide) (by decide) z hb) (fun b hb z => hc.typ z hb) (fun b hb z => hc.notT (by decide) (by decide) (by decide) (by decide) z hb)
theorem rr_whose (h : Was w B wv hv kv xs) : RR w hv (xs.map fun x => (x.n : Int)) := by
  have := reads_of_owns h.whose
  unfold RR
  rw [List.length_map]
  exact this
theorem rr_which (h : Was w B wv hv kv xs) : RR w kv (xs.map fun x => x.k) := by
  have := reads_of_owns h.which
  unfold RR
  rw [List.length_map]
  exact this
theorem wi_td {x : Wi} (h : WiAt w B hv kv x) : TdAt w B (.agg x.enc.toArray) x.t := ⟨x.row, x.rks, rfl, h.row, h.rks⟩
theorem was_at (h : Was w B wv hv kv xs) {i : Nat} {x : Wi} (hi : xs[i]? = some x) : ∃ g : Addr, (∀ w', (Instr.indexAt tTds wv (.int .i64 (i : Int))).run Tryd.prog w' = .ok (.pointer (some g)) w') ∧ ∀ w', Mod none_ w w' → (Instr.loadAt tTd (.pointer (some g))).run Tryd.prog w' = .ok (.agg x.enc.toArray) w' := by
  obtain ⟨g, h1, h2⟩ := elIx vTds cTd Wi.enc_len (reads_of_owns h.was) hi
  exact ⟨g, h1, fun w' hw => run_ldA (cs := x.enc) Tryd.underlying57 rfl (by kernel_rfl) (h2 w' hw)⟩
theorem told_var {p : Nat} {loose : Bool} {L : List Br} {V : CV} {key : Ky} {rank k : Int} {S : World → Prop} {K1 K2 : Value → Value → Value → Value → World → Prop} {wd : World} (hgl : Gl wd) (hc : CAt wd p loose L V) (hL : L.length ≤ 1000000) (hK : ∀ b ∈ L, b.key.length ≤ 1000000) (hC : ∀ b ∈ L, -9223372036854775808 ≤ b.p.color ∧ b.p.color ≤ 9223372036854775807)
    (hS : ∀ w', Mod none_ wd w' → S w')
    (hk : ∀ (w' : World) (b : Nat) (row rks x75 x76 : Value), w'.heap[b]? = some (.cells (tdCells (toldC loose L key rank k).1 row rks) tTd (0, 0)) → TdAt w' wd.heap.size (.agg (tdCells (toldC loose L key rank k).1 row rks)) (toldC loose L key rank k).1 → Mod none_ wd w' → K1 (.pointer (some ⟨b, 0, none⟩)) x75 x76 (.bool (toldC loose L key rank k).2) w' ∧ K2 (.pointer (some ⟨b, 0, none⟩)) x75 x76 (.bool (toldC loose L key rank k).2) w') :
    (CK Tryd.prog (.func (.func 27) #[] #[]) [.pointer (some ⟨p, 0, none⟩), strV key, .int .i64 rank, .int .i64 k] wd fun x75 w => S w ∧ (HK Tryd.prog S (do pure (Next.value (← Instr.extract x75 0))) fun x76 => HK Tryd.prog S (do pure (Next.value (← Instr.extract x75 1))) fun x77 => VK Tryd.prog (Instr.alloc tTd true (.tuple #[])) w fun x14 w => S w ∧ (UK Tryd.prog (Instr.storeAt tTd x14 x76) w fun _ w => S w ∧ K1 x14 x75 x76 x77 w))) ∧
    (VK Tryd.prog (Instr.alloc tTd true (.tuple #[])) wd fun x14 w => S w ∧ (CK Tryd.prog (.func (.func 27) #[] #[]) [.pointer (some ⟨p, 0, none⟩), strV key, .int .i64 rank, .int .i64 k] w fun x75 w => S w ∧ (HK Tryd.prog S (do pure (Next.value (← Instr.extract x75 0))) fun x76 => HK Tryd.prog S (do pure (Next.value (← Instr.extract x75 1))) fun x77 => UK Tryd.prog (Instr.storeAt tTd x14 x76) w fun _ w => S w ∧ K2 x14 x75 x76 x77 w))) := by
  constructor
  · refine CK_st Tryd.func27 rfl rfl (Told_ok hc hgl hL hK hC key rank k) ?_
    rintro _ w1 ⟨u, rfl, hu, hm1⟩
    obtain ⟨row, rks, eu, hone⟩ := hu.one
    subst eu
    refine ⟨hS _ hm1, HX_of rfl (HX_of rfl ?_)⟩
    refine al_k (cs := tdCells zTd nilS nilS) zTd_z rfl _ fun w2 hb2 hm2 hz2 => ⟨hS _ (hm1.trans hm2), ?_⟩
    refine stS (old := tdCells zTd nilS nilS) rfl rfl iTd rfl hone hb2 fun w3 hb3 hm3 hz3 => ?_
    have hm13 : Mod none_ w1 w3 := hm2.then hm3 fun i hi z => by omega
    have hm03 := hm1.trans hm13
    exact ⟨hS _ hm03, (hk w3 _ row rks _ _ hb3 (hu.calm hm13) hm03).1⟩
  · refine al_k (cs := tdCells zTd nilS nilS) zTd_z rfl _ fun w1 hb1 hm1 hz1 => ⟨hS _ hm1, ?_⟩
    refine CK_st Tryd.func27 rfl rfl (Told_ok (hc.calm hm1) (hgl.calm hm1) hL hK hC key rank k) ?_
    rintro _ w2 ⟨u, rfl, hu, hm2⟩
    obtain ⟨row, rks, eu, hone⟩ := hu.one
    subst eu
    refine ⟨hS _ (hm1.trans hm2), HX_of rfl (HX_of rfl ?_)⟩
    have hb2 := hm2.blk hb1 id
    refine stS (old := tdCells zTd nilS nilS) rfl rfl iTd rfl hone hb2 fun w3 hb3 hm3 hz3 => ?_
    have hm03 : Mod none_ wd w3 := (hm1.trans hm2).then hm3 fun i hi z => by omega
    refine ⟨hS _ hm03, (hk w3 _ row rks _ _ hb3 ?_ hm03).2⟩
    have := hu.mod hm3 (fun b hb z => by subst z; exact isT_ne hb ⟨_, _, hb2⟩ (by decide)) (fun b hb z => by subst z; exact isT_ne hb ⟨_, _, hb2⟩ (by decide))
    exact this.base hm1.size
end
end Go.Proofs.YtandbmnhghmcgaaDoor.Col
set_option linter.unusedVariables false
set_option linter.unusedSimpArgs false
set_option maxRecDepth 8000
namespace Go.Proofs.YtandbmnhghmcgaaDoor.Col
open Go Go.X Go.RowKit Go.Proofs.YtandbmnhghmcgaaDoor.XF Go.Proofs.YtandbmnhghmcgaaDoor.XG Go.Proofs.YtandbmnhghmcgaaDoor.XI Go.Proofs.YtandbmnhghmcgaaDoor.XK
structure GrC (w0 w : World) (p : Nat) (loose : Bool) (L : List Br) (V : CV) (v : Value) (l : List Ac) : Prop where
  gl : Gl w0
  acts : Acts w0 v l
  sm : Small l
  cs : Cs w0 w p loose L V
  len : L.length ≤ 1000
  key : ∀ b ∈ L, b.key.length ≤ 1000000
  clr : ∀ b ∈ L, -9223372036854775808 ≤ b.p.color ∧ b.p.color ≤ 9223372036854775807
section
variable {w0 w w' : World} {p : Nat} {loose : Bool} {L : List Br} {V : CV} {v : Value} {l : List Ac}
theorem GrC.calm (h : GrC w0 w p loose L V v l) (hm : Mod none_ w w') : GrC w0 w' p loose L V v l := ⟨h.gl, h.acts, h.sm, h.cs.calm hm, h.len, h.key, h.clr⟩
theorem GrC.is (h : GrC w0 w p loose L V v l) : Gl w ∧ CAt w p loose L V ∧ L.length ≤ 1000000 := ⟨h.gl.calm h.cs.mod, h.cs.at_, by have := h.len; omega⟩
theorem ac_key {g : Addr} {a : Ac} (h : AcAt w g a) : (Instr.loadAt 9 (.pointer (some ((g.add 0).add 0)))).run Tryd.prog w = .ok (strV a.key) w := run_ld1 vS rfl (by rw [add_add]; exact h 0 _ rfl)
theorem ac_rank {g : Addr} {a : Ac} (h : AcAt w g a) : (Instr.loadAt tI (.pointer (some (g.add 2)))).run Tryd.prog w = .ok (.int .i64 a.rank) w := run_ld1 vI rfl (h 2 _ rfl)
theorem grow_R5 {K : Exit → Sl → World → Prop} {ρ : Sl} {B i : Nat} {wv hv kv : Value} {xs : List Wi} {x : Wi} {a : Ac} (hg : GrC w0 w p loose L V v l) (hW : Was w B wv hv kv xs) (hx : xs[i]? = some x) (ha : l[x.n]? = some a) (ht : toldC loose L a.key a.rank x.k = (x.t, true))
    (q1 : ρ 1 = v) (q5 : ρ 5 = .pointer (some ⟨p, 0, none⟩)) (q7 : ρ 7 = hv) (q8 : ρ 8 = kv) (q13 : ρ 13 = .int .i64 i)
    (hK : ∀ (ρ' : Sl) (w' : World) b row rks, (∀ i, i < 14 → ρ' i = ρ i) → ρ' 14 = .pointer (some ⟨b, 0, none⟩) → ρ' 15 = .bool true → w'.heap[b]? = some (.cells (tdCells x.t row rks) tTd (0, 0)) → TdR w' (.agg (tdCells x.t row rks)) x.t → Mod none_ w w' → K .normal ρ' w') : W fn_ Tryd.prog 131 dispatcherlaw15_CollGrows_R5 K ρ w := by
  have hd : Mod none_ w { w with drawn := w.drawn + 1 } := (Mod.refl _ w).drawn _
  have hgd := hg.calm hd
  have hWd := hW.calm hd
  refine dispatcherlaw15_CollGrows_R5_held (D := []) (fun w' => Mod none_ { w with drawn := w.drawn + 1 } w') (Mod.refl _ _) ?_
  generalize ({ w with drawn := w.drawn + 1 } : World) = wd at *
  unfold dispatcherlaw15_CollGrows_R5_H
  rw [q1, q5, q7, q8, q13]
  obtain ⟨p1, r1, l1⟩ := ixR (rr_whose hWd) (i := i) (m := (x.n : Int)) (by rw [List.getElem?_map, hx]; rfl)
  obtain ⟨p2, r2, l2⟩ := ixR (rr_which hWd) (i := i) (m := x.k) (by rw [List.getElem?_map, hx]; rfl)
  obtain ⟨g, hix, hat⟩ := acts_at hg.acts ha
  have hat' : ∀ w', Mod none_ wd w' → AcAt w' g a := fun w' hw => hat w' (hgd.cs.mod.trans hw)
  refine HV_of (fun w' _ => r1 w') (HV_of (fun w' hw => l1 w' hw) (HV_of (fun w' _ => hix w') (HV_of (fun w' _ => run_fo oAc0 _ _) (HV_of (fun w' _ => run_fo (show fieldOff Tryd.prog tG 0 = some 0 by kernel_rfl) _ _) (HV_of (fun w' hw => ac_key (hat' w' hw)) ?_)))))
  refine HV_of (fun w' _ => r1 w') (HV_of (fun w' hw => l1 w' hw) (HV_of (fun w' _ => hix w') (HV_of (fun w' _ => run_fo oAc1 _ _) (HV_of (fun w' hw => ac_rank (hat' w' hw)) ?_))))
  refine HV_of (fun w' _ => r2 w') (HV_of (fun w' hw => l2 w' hw) ?_)
  refine told_var hgd.is.1 hgd.is.2.1 hgd.is.2.2 hg.key hg.clr (fun w' hw => hw) fun w' b row rks x75 x76 hb hT hm => ?_
  rw [ht] at hb hT ⊢
  refine ⟨hK _ w' b row rks (fun i hi => ?_) rfl rfl hb hT.R (hd.trans hm), hK _ w' b row rks (fun i hi => ?_) rfl rfl hb hT.R (hd.trans hm)⟩
  · repeat rw [up_at, if_neg (by omega)]
  · repeat rw [up_at, if_neg (by omega)]
theorem grow_R10 {K : Exit → Sl → World → Prop} {ρ : Sl} {B i b : Nat} {wv hv kv row rks : Value} {xs : List Wi} {x : Wi} (hW : Was w B wv hv kv xs) (hx : xs[i]? = some x) (hb : w.heap[b]? = some (.cells (tdCells x.t row rks) tTd (0, 0))) (hT : TdR w (.agg (tdCells x.t row rks)) x.t)
    (q6 : ρ 6 = wv) (q13 : ρ 13 = .int .i64 i) (q14 : ρ 14 = .pointer (some ⟨b, 0, none⟩)) (q15 : ρ 15 = .bool true)
    (hK : ∀ (ρ' : Sl) (w' : World), (∀ i, i < 14 → ρ' i = ρ i) → ρ' 88 = .bool false → Mod none_ w w' → K .normal ρ' w') : W fn_ Tryd.prog 131 dispatcherlaw15_CollGrows_R10 K ρ w := by
  refine dispatcherlaw15_CollGrows_R10_quiet (D := []) (fun w' => Mod none_ w w') ((Mod.refl _ w).drawn _) ?_
  unfold dispatcherlaw15_CollGrows_R10_Q
  rw [q6, q13, q14, q15]
  obtain ⟨g, hix, hld⟩ := was_at hW hx
  have hmx := (wi_td (hW.td x (List.mem_of_getElem? hx))).max
  refine Qnot (QGf (QV_of (v := .agg (tdCells x.t row rks)) (fun w' hw => run_ldB Tryd.underlying57 rfl iTd (hw.blk hb id)) ?_))
  refine QGf (Qmv (QGf (Qmv (QGf (QV_of (fun w' _ => hix w') (QGf (QV_of (fun w' hw => hld w' hw) (QGf ?_))))))))
  refine QC_rt Tryd.func28 rfl rfl (v := .bool (sameTd x.t x.t)) (fun w' hw => Same15_ok (hT.calm hw) ((wi_td (hW.td x (List.mem_of_getElem? hx))).R.calm hw) hmx.1 hmx.2) (fun w' u w'' hw z => ⟨z.1, hw.trans z.2⟩) ?_
  rw [sameTd_iff.2 rfl]
  refine QGf (Qnot (QPf ?_))
  intro w' hw
  refine hK _ w' (fun i hi => ?_) rfl hw
  repeat rw [up_at, if_neg (by omega)]
theorem grow_R13 {K : Exit → Sl → World → Prop} {ρ : Sl} {n : Nat} {k : Int} {a : Ac} (hg : GrC w0 w p loose L V v l) (ha : l[n]? = some a)
    (q1 : ρ 1 = v) (q5 : ρ 5 = .pointer (some ⟨p, 0, none⟩)) (q16 : ρ 16 = .int .i64 n) (q11 : ρ 11 = .int .i64 k)
    (hK : ∀ (ρ' : Sl) (w' : World) b row rks, (∀ i, i < 17 → ρ' i = ρ i) → ρ' 17 = .pointer (some ⟨b, 0, none⟩) → ρ' 18 = .bool (toldC loose L a.key a.rank k).2 → w'.heap[b]? = some (.cells (tdCells (toldC loose L a.key a.rank k).1 row rks) tTd (0, 0)) → TdAt w' w.heap.size (.agg (tdCells (toldC loose L a.key a.rank k).1 row rks)) (toldC loose L a.key a.rank k).1 → Mod none_ w w' → K .normal ρ' w') : W fn_ Tryd.prog 131 dispatcherlaw15_CollGrows_R13 K ρ w := by
  have hd : Mod none_ w { w with drawn := w.drawn + 1 } := (Mod.refl _ w).drawn _
  have hgd := hg.calm hd
  refine dispatcherlaw15_CollGrows_R13_held (D := []) (fun w' => Mod none_ { w with drawn := w.drawn + 1 } w') (Mod.refl _ _) ?_
  have hsz : w.heap.size ≤ ({ w with drawn := w.drawn + 1 } : World).heap.size := Nat.le_refl _
  generalize ({ w with drawn := w.drawn + 1 } : World) = wd at *
  unfold dispatcherlaw15_CollGrows_R13_H
  rw [q1, q5, q16, q11]
  obtain ⟨g, hix, hat⟩ := acts_at hg.acts ha
  have hat' : ∀ w', Mod none_ wd w' → AcAt w' g a := fun w' hw => hat w' (hgd.cs.mod.trans hw)
  refine HV_of (fun w' _ => hix w') (HV_of (fun w' _ => run_fo oAc0 _ _) (HV_of (fun w' _ => run_fo (show fieldOff Tryd.prog tG 0 = some 0 by kernel_rfl) _ _) (HV_of (fun w' hw => ac_key (hat' w' hw)) ?_)))
  refine HV_of (fun w' _ => hix w') (HV_of (fun w' _ => run_fo oAc1 _ _) (HV_of (fun w' hw => ac_rank (hat' w' hw)) ?_))
  refine told_var hgd.is.1 hgd.is.2.1 hgd.is.2.2 hg.key hg.clr (fun w' hw => hw) fun w' b row rks x75 x76 hb hT hm => ?_
  refine ⟨hK _ w' b row rks (fun i hi => ?_) rfl rfl hb (hT.base hsz) (hd.trans hm), hK _ w' b row rks (fun i hi => ?_) rfl rfl hb (hT.base hsz) (hd.trans hm)⟩
  · repeat rw [up_at, if_neg (by omega)]
  · repeat rw [up_at, if_neg (by omega)]
end
end Go.Proofs.YtandbmnhghmcgaaDoor.Col
set_option linter.unusedVariables false
set_option linter.unusedSimpArgs false
set_option maxRecDepth 8000
namespace Go.Proofs.YtandbmnhghmcgaaDoor.Col
open Go Go.X Go.RowKit Go.Proofs.YtandbmnhghmcgaaDoor.XF Go.Proofs.YtandbmnhghmcgaaDoor.XG Go.Proofs.YtandbmnhghmcgaaDoor.XI Go.Proofs.YtandbmnhghmcgaaDoor.XK
theorem bTd1 (t : Td) (A A2 : Option Addr) (n c n2 c2 : Nat) : builtRow Tryd.prog tTds 1 [(0, .agg (tdCells t (.slice A n c) (.slice A2 n2 c2)))] = some (tdCells t (.slice A n c) (.slice A2 n2 c2)) := by kernel_rfl
section
variable {w : World}
theorem td_own {B : Nat} {t : Td} {row rks : Value} (h : TdAt w B (.agg (tdCells t row rks)) t) : w.ownsRow B tL 1 row t.row.length (ints t.row) ∧ w.ownsRow B tI 1 rks t.ranks.length (ints t.ranks) := by
  obtain ⟨row', rks', e, h1, h2⟩ := h
  unfold tdCells at e
  injection e with e
  injection e with e
  simp only [List.cons.injEq, and_true, true_and] at e
  obtain ⟨rfl, rfl⟩ := e
  exact ⟨h1, h2⟩
theorem appI2 {v : Value} {xs : List Int} {m : Int} {B : Nat} {K : Value → Value → World → Prop} (ho : w.ownsRow B tI 1 v xs.length (ints xs)) (hB : B ≤ w.heap.size) (hl : xs.length ≤ 2000000)
    (hk : ∀ x v' w', w'.ownsRow B tI 1 v' (xs ++ [m]).length (ints (xs ++ [m])) → Mod (fun b => sb v b) w w' → (∀ b, sb v' b → sb v b ∨ w.heap.size ≤ b) → K x v' w') :
    VK Tryd.prog (Instr.buildSlice tIs 1 [(0, .int .i64 m)].toArray) w fun x w => IK Tryd.prog .append #[tIs, tIs] tIs [false, false] [v, x] w (K x) := by
  refine bs_k (cs := #[.int .i64 m]) (by kernel_rfl) fun w1 hb1 hm1 hz1 => ?_
  refine ap_any eIs (owns_mod ho hm1 fun _ _ => id) (reads_blk (size := 1) (n := 1) hb1 rfl) (fun u hu => by rw [List.mem_singleton.1 hu]; rfl) (by unfold maxLen; omega) (by omega) (by omega) fun v' w2 ho2 hm2 hv2 => ?_
  refine hk _ v' w2 ?_ ((hm1.mono fun _ _ z => z.elim).trans (hm2.mono fun b _ z => z.symm)) fun b z => ?_
  · rw [List.length_append, ints_app]
    exact ho2
  · rcases hv2 with y | y
    · exact .inl (by unfold sb at z ⊢; rw [← y]; exact z)
    · right; unfold sb at z; rw [y] at z; simp only [Option.some.injEq] at z; omega
theorem appTd {v : Value} {xs : List Wi} {m : Wi} {B : Nat} {K : Value → Value → World → Prop} (ho : w.ownsRow B tTd 5 v xs.length (xs.flatMap Wi.enc)) (hB : B ≤ w.heap.size) (hl : xs.length ≤ 2000000) (hs1 : ∃ A n c, m.row = .slice A n c) (hs2 : ∃ A n c, m.rks = .slice A n c)
    (hk : ∀ x v' w', w'.ownsRow B tTd 5 v' (xs ++ [m]).length ((xs ++ [m]).flatMap Wi.enc) → Mod (fun b => sb v b) w w' → (∀ b, sb v' b → sb v b ∨ w.heap.size ≤ b) → K x v' w') :
    VK Tryd.prog (Instr.buildSlice tTds 1 [(0, .agg (tdCells m.t m.row m.rks))].toArray) w fun x w => IK Tryd.prog .append #[tTds, tTds] tTds [false, false] [v, x] w (K x) := by
  obtain ⟨A1, n1, c1, e1⟩ := hs1
  obtain ⟨A2, n2, c2, e2⟩ := hs2
  have hone : (tdCells m.t m.row m.rks).all (·.oneCell') = true := by rw [e1, e2]; exact td_one _ _ _ _ _ _ _
  refine bs_k (cs := tdCells m.t m.row m.rks) (by rw [e1, e2]; exact bTd1 _ _ _ _ _ _ _) fun w1 hb1 hm1 hz1 => ?_
  refine ap_any eTds (owns_mod ho hm1 fun _ _ => id) (reads_blk (size := 5) (n := 1) hb1 (by simp [tdCells])) (fun u hu => Array.all_eq_true'.1 hone u (by simpa using hu)) (by unfold maxLen; omega) (by omega) (by omega) fun v' w2 ho2 hm2 hv2 => ?_
  refine hk _ v' w2 ?_ ((hm1.mono fun _ _ z => z.elim).trans (hm2.mono fun b _ z => z.symm)) fun b z => ?_
  · rw [List.length_append, List.flatMap_append]
    simpa [Wi.enc] using ho2
  · rcases hv2 with y | y
    · exact .inl (by unfold sb at z ⊢; rw [← y]; exact z)
    · right; unfold sb at z; rw [y] at z; simp only [Option.some.injEq] at z; omega
theorem grow_R14 {K : Exit → Sl → World → Prop} {ρ : Sl} {B n b : Nat} {k : Int} {t : Td} {h : Bool} {wv hv kv row rks : Value} {xs : List Wi} (hW : Was w B wv hv kv xs) (hB : B ≤ w.heap.size) (hl : xs.length ≤ 1000) (hb : w.heap[b]? = some (.cells (tdCells t row rks) tTd (0, 0))) (hT : TdAt w B (.agg (tdCells t row rks)) t) (hne : ∀ b, sb hv b ∨ sb kv b → ¬ sb rks b)
    (q6 : ρ 6 = wv) (q7 : ρ 7 = hv) (q8 : ρ 8 = kv) (q11 : ρ 11 = .int .i64 k) (q16 : ρ 16 = .int .i64 n) (q17 : ρ 17 = .pointer (some ⟨b, 0, none⟩)) (q18 : ρ 18 = .bool h)
    (hK : ∀ (ρ' : Sl) (w' : World) wv' hv' kv', (∀ i, i < 17 → i ≠ 6 → i ≠ 7 → i ≠ 8 → ρ' i = ρ i) → ρ' 6 = wv' → ρ' 7 = hv' → ρ' 8 = kv' → Was w' B wv' hv' kv' (if h then xs ++ [⟨n, k, row, rks, t⟩] else xs) → Mod (fun b => sb wv b ∨ sb hv b ∨ sb kv b) w w' → (∀ b, sb hv' b ∨ sb kv' b → (sb hv b ∨ sb kv b) ∨ w.heap.size ≤ b) → K .normal ρ' w') : sx fn_ Tryd.prog 131 dispatcherlaw15_CollGrows_R14 K ρ w := by
  rw [dispatcherlaw15_CollGrows_R14_eq]; unfold dispatcherlaw15_CollGrows_R14_F
  rw [q18, q17, q6, q7, q8, q11, q16]
  cases h with
  | false =>
    refine condF ?_
    refine hK _ w wv hv kv (fun i hi _ _ _ => ?_) q6 q7 q8 hW (Mod.refl _ _) (fun b hb => .inl hb)
    repeat rw [up_at, if_neg (by omega)]
  | true =>
  refine condT ?_
  refine ldS (cs := tdCells t row rks) rfl Tryd.underlying57 rfl iTd hb ?_
  obtain ⟨hr1, hr2⟩ := td_own hT
  obtain ⟨A1, c1, e1, _⟩ := reads_cap (reads_of_owns hr1)
  obtain ⟨A2, c2, e2, _⟩ := reads_cap (reads_of_owns hr2)
  refine appTd (m := ⟨n, k, row, rks, t⟩) hW.was hB (by omega) ⟨_, _, _, e1⟩ ⟨_, _, _, e2⟩ fun y1 wv' w2 ho2 hm2 hn2 => ?_
  have tw : ∀ {u : TypeId}, u ≠ tTd → ∀ b, isT u w b → ¬ sb wv b := fun hu b hb z => isT_ne hb (isT_own hW.was z) hu
  have hw2 := owns_mod hW.whose hm2 fun b hb => tw (by decide) b (isT_own hW.whose hb)
  have hk2 := owns_mod hW.which hm2 fun b hb => tw (by decide) b (isT_own hW.which hb)
  have l1 : (xs.map fun x => (x.n : Int)).length = xs.length := List.length_map ..
  have l2 : (xs.map fun x => x.k).length = xs.length := List.length_map ..
  have hB2 : B ≤ w2.heap.size := Nat.le_trans hB hm2.size
  refine appI2 (xs := xs.map fun x => (x.n : Int)) (m := (n : Int)) (by rw [l1]; exact hw2) hB2 (by omega) fun y2 hv' w3 ho3 hm3 hn3 => ?_
  have hk3 := owns_mod hk2 hm3 fun b hb z => hW.ne b z hb
  have hB3 : B ≤ w3.heap.size := Nat.le_trans hB2 hm3.size
  refine appI2 (xs := xs.map fun x => x.k) (m := k) (by rw [l2]; exact hk3) hB3 (by omega) fun y3 kv' w4 ho4 hm4 hn4 => ?_
  have td4 : ∀ x : Wi, WiAt w B hv kv x → WiAt w4 B hv' kv' x := fun x hx => by
    have a2 := owns_mod hx.row hm2 fun b hb => tw (by decide) b (isT_own hx.row hb)
    have b2 := owns_mod hx.rks hm2 fun b hb => tw (by decide) b (isT_own hx.rks hb)
    have a3 := owns_mod a2 hm3 fun b hb z => isT_ne (isT_own a2 hb) (isT_own hw2 z) (by decide)
    have b3 := owns_mod b2 hm3 fun b hb z => hx.ne b (.inl z) hb
    have a4 := owns_mod a3 hm4 fun b hb z => isT_ne (isT_own a3 hb) (isT_own hk3 z) (by decide)
    have b4 := owns_mod b3 hm4 fun b hb z => hx.ne b (.inr z) hb
    refine ⟨a4, b4, fun b hb z => ?_⟩
    have blt := (owns_bd hx.rks b z).2
    have hs2 := hm2.size
    have hs3 := hm3.size
    rcases hb with q | q
    · rcases hn3 b q with y | y
      · exact hx.ne b (.inl y) z
      · omega
    · rcases hn4 b q with y | y
      · exact hx.ne b (.inr y) z
      · omega
  have hs2 := hm2.size
  have hs3 := hm3.size
  refine hK _ w4 wv' hv' kv' (fun i hi h6 h7 h8 => ?_) rfl rfl rfl ⟨?_, ?_, ?_, fun b hb z => ?_, fun x hx => ?_⟩ ?_ ?_
  · repeat rw [up_at, if_neg (by omega)]
  · have a3 := owns_mod ho2 hm3 fun b hb z => isT_ne (isT_own ho2 hb) (isT_own hw2 z) (by decide)
    exact owns_mod a3 hm4 fun b hb z => isT_ne (isT_own a3 hb) (isT_own hk3 z) (by decide)
  · have a4 := owns_mod ho3 hm4 fun b hb z => by
      rcases hn3 b hb with y | y
      · exact hW.ne b y z
      · have := (owns_bd hk2 b z).2; omega
    simpa using a4
  · simpa using ho4
  · rcases hn3 b hb with y | y <;> rcases hn4 b z with y' | y'
    · exact hW.ne b y y'
    · have := (owns_bd hW.whose b y).2; omega
    · have := (owns_bd hW.which b y').2; omega
    · have := (owns_bd ho3 b hb).2; omega
  · rcases List.mem_append.1 (show x ∈ xs ++ [_] from hx) with z | z
    · exact td4 x (hW.td x z)
    · rw [List.mem_singleton.1 z]
      exact td4 _ ⟨hr1, hr2, hne⟩
  · refine (hm2.mono fun b _ z => .inl z).then ?_ (fun i hi z => z)
    refine (hm3.mono (S' := fun b => sb wv b ∨ sb hv b ∨ sb kv b) fun b _ z => .inr (.inl z)).then ?_ (fun i hi z => z)
    exact hm4.mono fun b _ z => .inr (.inr z)
  · rintro b (q | q)
    · rcases hn3 b q with y | y
      · exact .inl (.inl y)
      · right; omega
    · rcases hn4 b q with y | y
      · exact .inl (.inr y)
      · right; omega
end
end Go.Proofs.YtandbmnhghmcgaaDoor.Col
set_option linter.unusedVariables false
set_option linter.unusedSimpArgs false
set_option maxRecDepth 8000
namespace Go.X
open Go Go.RowKit
def AllT (loose : Bool) (L : List Br) (l : List Ac) (xs : List Wi) : Prop := ∀ x ∈ xs, ∃ a, l[x.n]? = some a ∧ toldC loose L a.key a.rank x.k = (x.t, true)
end Go.X
namespace Go.Proofs.YtandbmnhghmcgaaDoor.Col
open Go Go.X Go.RowKit Go.Proofs.YtandbmnhghmcgaaDoor.XF Go.Proofs.YtandbmnhghmcgaaDoor.XG Go.Proofs.YtandbmnhghmcgaaDoor.XI Go.Proofs.YtandbmnhghmcgaaDoor.XK
structure GwS (v : Value) (p : Nat) (wv hv kv : Value) (i : Nat) (k e : Int) (ρ : Sl) : Prop where
  h1 : ρ 1 = v
  h5 : ρ 5 = .pointer (some ⟨p, 0, none⟩)
  h6 : ρ 6 = wv
  h7 : ρ 7 = hv
  h8 : ρ 8 = kv
  h9 : ρ 9 = .int .i64 i
  h11 : ρ 11 = .int .i64 k
  h12 : ρ 12 = .int .i64 e
section
variable {w0 w : World} {p : Nat} {loose : Bool} {L : List Br} {V : CV} {v : Value} {l : List Ac} {wv hv kv : Value} {i : Nat} {k e : Int}
theorem GwS.of {ρ ρ' : Sl} (h : GwS v p wv hv kv i k e ρ) (hs : ∀ i, i < 13 → ρ' i = ρ i) : GwS v p wv hv kv i k e ρ' :=
  ⟨(hs 1 (by decide)).trans h.h1, (hs 5 (by decide)).trans h.h5, (hs 6 (by decide)).trans h.h6, (hs 7 (by decide)).trans h.h7, (hs 8 (by decide)).trans h.h8, (hs 9 (by decide)).trans h.h9, (hs 11 (by decide)).trans h.h11, (hs 12 (by decide)).trans h.h12⟩
theorem grow_L2 {K : Exit → Sl → World → Prop} {ρ : Sl} {B : Nat} {xs : List Wi} (hg : GrC w0 w p loose L V v l) (hW : Was w B wv hv kv xs) (hl : xs.length ≤ 1000) (hT : AllT loose L l xs) (hs : GwS v p wv hv kv i k e ρ) (q13 : ρ 13 = .int .i64 (0 : Nat))
    (hK : ∀ (ρ' : Sl) (w' : World), GwS v p wv hv kv i k e ρ' → Mod none_ w w' → K (.exit 2) ρ' w') : W fn_ Tryd.prog 131 (Code.loop dispatcherlaw15_CollGrows_L2) K ρ w := by
  refine W_loop dispatcherlaw15_CollGrows_L2_ok (fun ρ w' => ∃ n : Nat, n ≤ xs.length ∧ ρ 13 = .int .i64 n ∧ GwS v p wv hv kv i k e ρ ∧ Mod none_ w w') (fun ρ _ => xs.length - (intOf (ρ 13)).toNat)
    ⟨0, Nat.zero_le _, q13, hs, Mod.refl _ _⟩ ?_
  rintro ρ w1 ⟨n, hn, e13, es, hm⟩
  rw [dispatcherlaw15_CollGrows_L2_eq]; unfold dispatcherlaw15_CollGrows_L2_F
  obtain ⟨A, c, ev, _⟩ := reads_cap (reads_of_owns hW.was)
  rw [e13, es.h6, ev, len_sl vTds, ← ev, BK_lss]
  by_cases hlt : n < xs.length
  · rw [decide_eq_true (by omega)]
    refine condT ?_
    have hx : xs[n]? = some xs[n] := List.getElem?_eq_getElem hlt
    obtain ⟨a, ha, ht⟩ := hT xs[n] (List.getElem_mem hlt)
    generalize xs[n] = x at *
    have st : ∀ {ρ' : Sl}, (∀ i, i < 14 → ρ' i = ρ i) → GwS v p wv hv kv i k e ρ' ∧ ρ' 13 = .int .i64 n := fun hh => ⟨es.of fun i hi => hh i (by omega), (hh 13 (by decide)).trans e13⟩
    refine grow_R5 (hg.calm hm) (hW.calm hm) hx ha ht ?_ ?_ ?_ ?_ ?_ ?_
    · exact es.h1
    · exact es.h5
    · exact es.h7
    · exact es.h8
    · exact e13
    intro ρ2 w2 b row rks s2 z14 z15 hb hTd hm2
    have s2' : ∀ i, i < 14 → ρ2 i = ρ i := fun i hi => by
      rw [s2 i hi]
      repeat rw [up_at, if_neg (by omega)]
    obtain ⟨es2, e13'⟩ := st s2'
    rw [sq_n, dispatcherlaw15_CollGrows_R6_eq]; unfold dispatcherlaw15_CollGrows_R6_F
    refine grow_R10 ((hW.calm hm).calm hm2) hx hb hTd es2.h6 e13' z14 z15 ?_
    intro ρ3 w3 s3 z88 hm3
    have s3' : ∀ i, i < 14 → ρ3 i = ρ i := fun i hi => (s3 i hi).trans (s2' i hi)
    obtain ⟨es3, e13''⟩ := st s3'
    rw [sq_n, dispatcherlaw15_CollGrows_R11_eq]; unfold dispatcherlaw15_CollGrows_R11_F
    rw [z88]
    refine condF ?_
    rw [bk_n, sq_n, dispatcherlaw15_CollGrows_R7_eq]; unfold dispatcherlaw15_CollGrows_R7_F
    rw [e13'', BK_add, wrap_i (by omega) (by omega)]
    refine ⟨⟨n + 1, hlt, rfl, es3.of fun i hi => by repeat rw [up_at, if_neg (by omega)], (hm.trans hm2).trans hm3⟩, ?_⟩
    simp only [sq_n, sq_x, sq_r, bk_n, bk_r, bk_x, rt_r, rt_n, rs_0, rs_t, pk_1, pk_2, up_at, reduceIte, Nat.reduceEqDiff, intOf]; omega
  · obtain rfl : n = xs.length := by omega
    rw [decide_eq_false (by omega)]
    refine condF ?_
    refine hK _ _ (es.of fun i hi => by repeat rw [up_at, if_neg (by omega)]) hm
theorem grow_L8 {K : Exit → Sl → World → Prop} {ρ : Sl} {xs : List Wi} (hg : GrC w0 w p loose L V v l) (hW : Was w w0.heap.size wv hv kv xs) (hl : xs.length ≤ 200) (hT : AllT loose L l xs) (hdis : ∀ b, RB V b → ¬ (sb hv b ∨ sb kv b)) (hi : i < l.length) (he : e = 0 ∨ e = 2) (hs : GwS v p wv hv kv i k e ρ) (q16 : ρ 16 = .int .i64 (0 : Nat))
    (hK : ∀ (ρ' : Sl) (w' : World) wv' hv' kv' xs', GwS v p wv' hv' kv' i k e ρ' → Was w' w0.heap.size wv' hv' kv' xs' → xs'.length ≤ 300 → AllT loose L l xs' → GrC w0 w' p loose L V v l → (∀ b, RB V b → ¬ (sb hv' b ∨ sb kv' b)) → K (.exit 4) ρ' w') : W fn_ Tryd.prog 131 (Code.loop dispatcherlaw15_CollGrows_L8) K ρ w := by
  have h80 := hg.sm.len
  refine W_loop dispatcherlaw15_CollGrows_L8_ok (fun ρ w' => ∃ (n : Nat) (wv' hv' kv' : Value) (xs' : List Wi), n ≤ i + 1 ∧ ρ 16 = .int .i64 n ∧ GwS v p wv' hv' kv' i k e ρ ∧ Was w' w0.heap.size wv' hv' kv' xs' ∧ xs'.length ≤ xs.length + n ∧ AllT loose L l xs' ∧ GrC w0 w' p loose L V v l ∧ ∀ b, RB V b → ¬ (sb hv' b ∨ sb kv' b)) (fun ρ _ => i + 1 - (intOf (ρ 16)).toNat)
    ⟨0, wv, hv, kv, xs, Nat.zero_le _, q16, hs, hW, Nat.le_refl _, hT, hg, hdis⟩ ?_
  rintro ρ w1 ⟨n, wv', hv', kv', xs', hn, e16, es, hW1, hl1, hT1, hg1, hdis1⟩
  rw [dispatcherlaw15_CollGrows_L8_eq]; unfold dispatcherlaw15_CollGrows_L8_F
  rw [e16, es.h9, es.h12]
  have out : ∀ {ρ' : Sl}, (∀ i, i < 14 → ρ' i = ρ i) → K (.exit 4) ρ' w1 := fun {ρ'} hh => hK ρ' w1 wv' hv' kv' xs' (es.of fun i hi => hh i (by omega)) hW1 (by omega) hT1 hg1 hdis1
  by_cases hlt : (n : Int) ≤ (i : Int)
  case neg =>
    simp only [↓VG_u, ↓UG_u, ↓MG_u, ↓NG_u, ↓PG_u, ↓BG_u, ↓CG_u, ↓IG_u, ↓VGtt, ↓VGtf, ↓VGft, ↓VGff, ↓UGtt, ↓UGtf, ↓UGft, ↓UGff, ↓MGtt, ↓MGtf, ↓MGft, ↓MGff, ↓NGtt, ↓NGtf, ↓NGft, ↓NGff, ↓PGtt, ↓PGtf, ↓PGft, ↓PGff, ↓BGtt, ↓BGtf, ↓BGft, ↓BGff, ↓CGtt, ↓CGtf, ↓CGft, ↓CGff, ↓IGtt, ↓IGtf, ↓IGft, ↓IGff, ↓PKt, ↓PKf, ↓CDt, ↓CDf, ↓NOTt, ↓NOTf, ↓NK_ptr, ↓LEf (show (i : Int) < (n : Int) by omega)]
    exact out fun i hi => by repeat rw [up_at, if_neg (by omega)]
  simp only [↓VG_u, ↓UG_u, ↓MG_u, ↓NG_u, ↓PG_u, ↓BG_u, ↓CG_u, ↓IG_u, ↓VGtt, ↓VGtf, ↓VGft, ↓VGff, ↓UGtt, ↓UGtf, ↓UGft, ↓UGff, ↓MGtt, ↓MGtf, ↓MGft, ↓MGff, ↓NGtt, ↓NGtf, ↓NGft, ↓NGff, ↓PGtt, ↓PGtf, ↓PGft, ↓PGff, ↓BGtt, ↓BGtf, ↓BGft, ↓BGff, ↓CGtt, ↓CGtf, ↓CGft, ↓CGff, ↓IGtt, ↓IGtf, ↓IGft, ↓IGff, ↓PKt, ↓PKf, ↓CDt, ↓CDf, ↓NOTt, ↓NOTf, ↓NK_ptr, ↓LEt hlt]
  rcases he with rfl | rfl
  case inr =>
    simp only [↓VG_u, ↓UG_u, ↓MG_u, ↓NG_u, ↓PG_u, ↓BG_u, ↓CG_u, ↓IG_u, ↓VGtt, ↓VGtf, ↓VGft, ↓VGff, ↓UGtt, ↓UGtf, ↓UGft, ↓UGff, ↓MGtt, ↓MGtf, ↓MGft, ↓MGff, ↓NGtt, ↓NGtf, ↓NGft, ↓NGff, ↓PGtt, ↓PGtf, ↓PGft, ↓PGff, ↓BGtt, ↓BGtf, ↓BGft, ↓BGff, ↓CGtt, ↓CGtf, ↓CGft, ↓CGff, ↓IGtt, ↓IGtf, ↓IGft, ↓IGff, ↓PKt, ↓PKf, ↓CDt, ↓CDf, ↓NOTt, ↓NOTf, ↓NK_ptr, ↓EQf (show (2 : Int) ≠ 0 by decide)]
    exact out fun i hi => by repeat rw [up_at, if_neg (by omega)]
  simp only [↓VG_u, ↓UG_u, ↓MG_u, ↓NG_u, ↓PG_u, ↓BG_u, ↓CG_u, ↓IG_u, ↓VGtt, ↓VGtf, ↓VGft, ↓VGff, ↓UGtt, ↓UGtf, ↓UGft, ↓UGff, ↓MGtt, ↓MGtf, ↓MGft, ↓MGff, ↓NGtt, ↓NGtf, ↓NGft, ↓NGff, ↓PGtt, ↓PGtf, ↓PGft, ↓PGff, ↓BGtt, ↓BGtf, ↓BGft, ↓BGff, ↓CGtt, ↓CGtf, ↓CGft, ↓CGff, ↓IGtt, ↓IGtf, ↓IGft, ↓IGff, ↓PKt, ↓PKf, ↓CDt, ↓CDf, ↓NOTt, ↓NOTf, ↓NK_ptr, ↓EQt (show (0 : Int) = 0 from rfl)]
  have hx : l[n]? = some l[n] := List.getElem?_eq_getElem (by omega)
  generalize l[n] = a at *
  refine grow_R13 (k := k) hg1 hx ?_ ?_ ?_ ?_ ?_
  · exact es.h1
  · exact es.h5
  · exact e16
  · exact es.h11
  intro ρ2 w2 b row rks s2 z17 z18 hb hTd hm2
  have s2' : ∀ i, i < 17 → ρ2 i = ρ i := fun i hi => by
    rw [s2 i hi]
    repeat rw [up_at, if_neg (by omega)]
  have es2 := es.of (ρ' := ρ2) fun i hi => s2' i (by omega)
  have hW2 := hW1.calm hm2
  have hg2 := hg1.calm hm2
  have hB := hg1.cs.mod.size
  have hne : ∀ b, sb hv' b ∨ sb kv' b → ¬ sb rks b := fun b hb z => by
    have h2 := (owns_bd (td_own hTd).2 b z).1
    rcases hb with q | q
    · have := (owns_bd hW1.whose b q).2; omega
    · have := (owns_bd hW1.which b q).2; omega
  rw [sq_n]
  refine grow_R14 (n := n) (k := k) (h := (toldC loose L a.key a.rank k).2) hW2 hg2.cs.mod.size (by omega) hb (hTd.base hB) hne es2.h6 es2.h7 es2.h8 es2.h11 ((s2' 16 (by decide)).trans e16) z17 z18 ?_
  intro ρ3 w3 wv3 hv3 kv3 s3 z6 z7 z8 hW3 hm3 hn3
  have hc3 : Cs w0 w3 p loose L V := ⟨hg2.cs.at_.mod2 hm3 (fun b hb z => by
      rcases z with y | y | y
      · exact hg2.cs.at_.notT (by decide) (by decide) (by decide) (by decide) hb (isT_own hW2.was y)
      · exact hg2.cs.at_.typ hb (isT_own hW2.whose y)
      · exact hg2.cs.at_.typ hb (isT_own hW2.which y)) (fun b hb z => by
      rcases z with y | y
      · obtain ⟨e, he, hb'⟩ := hb
        exact isT_ne (isT_own (hg2.cs.at_.ro e he).rk hb') (isT_own hW2.was y) (by decide)
      · exact hdis1 b hb y), hg2.cs.new, hg2.cs.mod.then hm3 fun i hi z => by
      rcases z with y | y | y
      · have := (owns_bd hW2.was i y).1; omega
      · have := (owns_bd hW2.whose i y).1; omega
      · have := (owns_bd hW2.which i y).1; omega⟩
  have hg3 : GrC w0 w3 p loose L V v l := ⟨hg2.gl, hg2.acts, hg2.sm, hc3, hg2.len, hg2.key, hg2.clr⟩
  have hdis3 : ∀ b, RB V b → ¬ (sb hv3 b ∨ sb kv3 b) := fun b hb z => by
    rcases hn3 b z with y | y
    · exact hdis1 b hb y
    · have := hg2.cs.at_.rold hb; omega
  have s3' : ∀ i, i < 17 → i ≠ 6 → i ≠ 7 → i ≠ 8 → ρ3 i = ρ i := fun i hi h6 h7 h8 => (s3 i hi h6 h7 h8).trans (s2' i hi)
  have es3 : GwS v p wv3 hv3 kv3 i k 0 ρ3 := ⟨(s3' 1 (by decide) (by decide) (by decide) (by decide)).trans es.h1, (s3' 5 (by decide) (by decide) (by decide) (by decide)).trans es.h5, z6, z7, z8, (s3' 9 (by decide) (by decide) (by decide) (by decide)).trans es.h9, (s3' 11 (by decide) (by decide) (by decide) (by decide)).trans es.h11, (s3' 12 (by decide) (by decide) (by decide) (by decide)).trans es.h12⟩
  have e16' : ρ3 16 = .int .i64 n := (s3' 16 (by decide) (by decide) (by decide) (by decide)).trans e16
  rw [bk_n, sq_n, dispatcherlaw15_CollGrows_R12_eq]; unfold dispatcherlaw15_CollGrows_R12_F
  rw [e16', BK_add, wrap_i (by omega) (by omega)]
  refine ⟨⟨n + 1, wv3, hv3, kv3, _, by omega, rfl, es3.of fun i hi => by repeat rw [up_at, if_neg (by omega)], hW3, ?_, ?_, hg3, hdis3⟩, ?_⟩
  · split
    · rw [List.length_append]
      simp only [List.length_cons, List.length_nil]
      omega
    · omega
  · intro x hx'
    split at hx'
    · rename_i hh
      rcases List.mem_append.1 hx' with z | z
      · exact hT1 x z
      · rw [List.mem_singleton.1 z]
        exact ⟨a, hx, Prod.ext rfl hh⟩
    · exact hT1 x hx'
  · simp only [sq_n, sq_x, sq_r, bk_n, bk_r, bk_x, rt_r, rt_n, rs_0, rs_t, pk_1, pk_2, up_at, reduceIte, Nat.reduceEqDiff, intOf]; omega
end
end Go.Proofs.YtandbmnhghmcgaaDoor.Col
set_option linter.unusedVariables false
set_option linter.unusedSimpArgs false
set_option maxRecDepth 8000
namespace Go.Proofs.YtandbmnhghmcgaaDoor.Col
open Go Go.X Go.RowKit Go.Proofs.YtandbmnhghmcgaaDoor.XF Go.Proofs.YtandbmnhghmcgaaDoor.XG Go.Proofs.YtandbmnhghmcgaaDoor.XI Go.Proofs.YtandbmnhghmcgaaDoor.XK
section
variable {w : World} {a : Ac}
theorem ac_one (h : RR w a.rv a.ranks) : ∃ A n c, a.rv = .slice A n c := by
  obtain ⟨A, c, e, _⟩ := reads_cap h
  exact ⟨A, _, c, e⟩
end
end Go.Proofs.YtandbmnhghmcgaaDoor.Col
set_option linter.unusedVariables false
set_option linter.unusedSimpArgs false
set_option maxRecDepth 8000
namespace Go.X
open Go Go.RowKit
theorem bringC_mem {L : List Br} {b x : Br} (h : x ∈ (bringC L b).1) : x ∈ L ∨ x = b := by
  unfold bringC at h
  split at h
  · rcases List.mem_append.1 h with z | z
    · exact .inl z
    · exact .inr (List.mem_singleton.1 z)
  · exact .inl h
theorem bringC_e (L : List Br) (b : Br) : (bringC L b).2.2 = 0 ∨ (bringC L b).2.2 = 2 := by
  unfold bringC
  split
  · exact .inl rfl
  · exact .inr rfl
theorem zAc_one (a : Ac) (h : ∃ A n c, a.rv = .slice A n c) : a.enc.toArray.all (·.oneCell') = true := by
  obtain ⟨A, n, c, e⟩ := h
  cases a
  subst e
  kernel_rfl
end Go.X
namespace Go.Proofs.YtandbmnhghmcgaaDoor.Col
open Go Go.X Go.RowKit Go.Proofs.YtandbmnhghmcgaaDoor.XF Go.Proofs.YtandbmnhghmcgaaDoor.XG Go.Proofs.YtandbmnhghmcgaaDoor.XI Go.Proofs.YtandbmnhghmcgaaDoor.XK
theorem zAc : (Tryd.prog.info? tAc).bind (·.zero) = some (.agg (Ac.enc ⟨[], nilS, [], 0, zPt, false⟩).toArray) := by kernel_rfl
section
variable {w0 w w' : World} {p : Nat} {loose : Bool} {L : List Br} {V : CV} {v : Value} {l : List Ac}
theorem GrC.put {a : Ac} (ha : a ∈ l) (hcol : ∀ a ∈ l, -9223372036854775808 ≤ a.p.color ∧ a.p.color ≤ 9223372036854775807) (hg : GrC w0 w p loose L V v l) (hL : L.length < 1000) {V' : CV} (hc : CAt w' p loose (bringC L a.br).1 V') (hf : CFr p w V w' V') : GrC w0 w' p loose (bringC L a.br).1 V' v l :=
  ⟨hg.gl, hg.acts, hg.sm, hg.cs.put hc hf, by have := bringC_len L a.br; omega, fun b hb => (bringC_mem hb).elim (hg.key b) fun q => by rw [q]; have := hg.sm.key a ha; show a.key.length ≤ _; omega, fun b hb => (bringC_mem hb).elim (hg.clr b) fun q => by rw [q]; exact hcol a ha⟩
theorem CollGrows_ok (hgl : Gl w) (hA : Acts w v l) (hcol : ∀ a ∈ l, -9223372036854775808 ≤ a.p.color ∧ a.p.color ≤ 9223372036854775807) (loose : Bool) : Rt Tryd.prog 5 #[.bool loose, v] w fun u w' => u = .bool true ∧ Mod none_ w w' := by
  refine dispatcherlaw15_CollGrows_calls ?_
  unfold dispatcherlaw15_CollGrows_F
  refine CK_st Tryd.func26 rfl rfl (awake_ok hgl) ?_
  rintro _ w1 ⟨rfl, hm1⟩
  simp only [↓VG_u, ↓UG_u, ↓MG_u, ↓NG_u, ↓PG_u, ↓BG_u, ↓CG_u, ↓IG_u, ↓VGtt, ↓VGtf, ↓VGft, ↓VGff, ↓UGtt, ↓UGtf, ↓UGft, ↓UGff, ↓MGtt, ↓MGtf, ↓MGft, ↓MGff, ↓NGtt, ↓NGtf, ↓NGft, ↓NGff, ↓PGtt, ↓PGtf, ↓PGft, ↓PGff, ↓BGtt, ↓BGtf, ↓BGft, ↓BGff, ↓CGtt, ↓CGtf, ↓CGft, ↓CGff, ↓IGtt, ↓IGtf, ↓IGft, ↓IGff, ↓PKt, ↓PKf, ↓CDt, ↓CDf, ↓NOTt, ↓NOTf, ↓NK_ptr]
  refine CK_st Tryd.func10 rfl rfl (Great_ok (hA.calm hm1)) ?_
  rintro _ w2 ⟨b, rfl, hb, hm2⟩
  have hm02 := hm1.trans hm2
  cases b with
  | true => exact condT ⟨by first | trivial | rfl, hm02⟩
  | false =>
  refine condF ?_
  have hsm := hb rfl
  refine CK_st Tryd.func11 rfl rfl (New_ok w2 loose) ?_
  rintro _ w3 ⟨p, V, rfl, hc, hVe, _, hnew, hm3⟩
  have hg3 : GrC w w3 p loose [] V v l := ⟨hgl, hA, hsm, ⟨hc, fun b hb => Nat.le_trans hm02.size (hnew b hb), hm02.trans hm3⟩, by simp, (fun b hb => by cases hb), (fun b hb => by cases hb)⟩
  have h80 := hsm.len
  obtain ⟨Av, cv, ev, _⟩ := reads_cap hA.row
  refine W_loop dispatcherlaw15_CollGrows_L0_ok (fun ρ w' => ∃ (i : Nat) (L : List Br) (V : CV) (wv hv kv : Value) (xs : List Wi), i ≤ l.length ∧ ρ 9 = .int .i64 i ∧ ρ 1 = v ∧ ρ 5 = .pointer (some ⟨p, 0, none⟩) ∧ ρ 6 = wv ∧ ρ 7 = hv ∧ ρ 8 = kv ∧ GrC w w' p loose L V v l ∧ L.length ≤ i ∧ Was w' w.heap.size wv hv kv xs ∧ xs.length ≤ 200 ∧ AllT loose L l xs ∧ ∀ b, RB V b → ¬ (sb hv b ∨ sb kv b)) (fun ρ _ => l.length - (intOf (ρ 9)).toNat)
    ⟨0, [], V, nilS, nilS, nilS, [], Nat.zero_le _, rfl, rfl, rfl, rfl, rfl, rfl, hg3, Nat.le_refl _, Was.nil _ _, by simp, (fun x hx => by cases hx), (fun b hb z => by rcases z with z | z <;> cases z)⟩ ?_
  rintro ρ w4 ⟨i, L, V, wv, hv, kv, xs, hi, e9, e1, e5, e6, e7, e8, hg, hLi, hW, hl, hT, hdis⟩
  rw [dispatcherlaw15_CollGrows_L0_eq]; unfold dispatcherlaw15_CollGrows_L0_F
  rw [e9, e1, e5, ev, len_sl vAcs, ← ev, BK_lss]
  by_cases hlt : i < l.length
  case neg =>
    obtain rfl : i = l.length := by omega
    rw [decide_eq_false (by omega)]
    refine condF ?_
    rw [sq_x, bk_x, sq_n, dispatcherlaw15_CollGrows_R1_eq]; unfold dispatcherlaw15_CollGrows_R1_F
    exact ⟨rfl, hg.cs.mod⟩
  rw [decide_eq_true (by omega)]
  refine condT ?_
  have hx : l[i]? = some l[i] := List.getElem?_eq_getElem hlt
  have hmem : l[i] ∈ l := List.getElem_mem hlt
  generalize l[i] = a at *
  obtain ⟨g, hix, hat⟩ := acts_at hA hx
  have hat4 := hat w4 hg.cs.mod
  refine VK_of (hix _) (VK_of (run_ldA (cs := a.enc) Tryd.underlying36 rfl (by kernel_rfl) hat4) ?_)
  have hRR : RR w4 a.rv a.ranks := (hA.rk a hmem).calm hg.cs.mod
  refine lcl_k (cs := a.enc.toArray) zAc _ iAc rfl (zAc_one a (ac_one hRR)) fun w5 hb5 hm5 hz5 => ?_
  have h5 := acAt_blk hb5
  simp only [↓(fC0 h5).e, ↓(fC1 h5).e, ↓(fC2 h5).e]
  have hg5 := hg.calm hm5
  have hrk8 := hsm.rk a hmem
  refine CK_st Tryd.func12 rfl rfl (Bring_ok (b := a.br) hg5.cs.at_ (by omega) (hRR.calm hm5) (by show a.ranks.length ≤ 1000; omega)) ?_
  rintro _ w6 ⟨rfl, V6, hc6, hf6⟩
  have hg6 := hg5.put hmem hcol (by omega) hc6 hf6
  have hW6 := (hW.calm hm5).bring hg5.cs.at_ hf6
  have hT6 : AllT loose (bringC L a.br).1 l xs := fun x hx' => by
    obtain ⟨a', ha', ht⟩ := hT x hx'
    exact ⟨a', ha', toldC_bring hg.cs.at_.inv _ ht⟩
  have hdis6 : ∀ b, RB V6 b → ¬ (sb hv b ∨ sb kv b) := fun b hb z => by
    rcases hf6.r b hb with y | y
    · exact hdis b y z
    · have hs5 := hm5.size
      rcases z with z | z
      · have := (owns_bd hW.whose b z).2; omega
      · have := (owns_bd hW.which b z).2; omega
  rw [extract_ok (v := .int .i64 (bringC L a.br).2.1) rfl, extract_ok (v := .int .i64 (bringC L a.br).2.2) rfl]
  refine grow_L2 (i := i) (k := (bringC L a.br).2.1) (e := (bringC L a.br).2.2) hg6 hW6 (by omega) hT6 ⟨?_, ?_, ?_, ?_, ?_, ?_, rfl, rfl⟩ rfl ?_
  · exact e1
  · exact e5
  · exact e6
  · exact e7
  · exact e8
  · exact e9
  intro ρ7 w7 es7 hm7
  have hLl := bringC_len L a.br
  rw [bk_x, sq_n, dispatcherlaw15_CollGrows_R3_eq]; unfold dispatcherlaw15_CollGrows_R3_F
  refine grow_L8 (hg6.calm hm7) (hW6.calm hm7) hl hT6 hdis6 hlt (bringC_e _ _) (es7.of fun i hi => by repeat rw [up_at, if_neg (by omega)]) rfl ?_
  intro ρ8 w8 wv8 hv8 kv8 xs8 es8 hW8 hl8 hT8 hg8 hdis8
  rw [bk_x, sq_n, dispatcherlaw15_CollGrows_R9_eq]; unfold dispatcherlaw15_CollGrows_R9_F
  obtain ⟨A8, c8, ev8, _⟩ := reads_cap (reads_of_owns hW8.was)
  rw [es8.h6, ev8, len_sl vTds, ← ev8]
  by_cases hc : (200 : Int) < xs8.length
  · rw [GTt hc]
    exact condT ⟨rfl, hg8.cs.mod⟩
  · rw [GTf (by omega)]
    refine condF ?_
    rw [bk_n, sq_n, dispatcherlaw15_CollGrows_R4_eq]; unfold dispatcherlaw15_CollGrows_R4_F
    have es9 := es8.of (ρ' := up (up (up ρ8 128 wv8) 129 (.int .i64 (xs8.length : Int))) 130 (.bool false)) fun i hi => by repeat rw [up_at, if_neg (by omega)]
    rw [es9.h9, BK_add, wrap_i (by omega) (by omega)]
    refine ⟨⟨i + 1, _, V6, wv8, hv8, kv8, xs8, hlt, rfl, es9.h1, es9.h5, es9.h6, es9.h7, es9.h8, hg8, by omega, hW8, by omega, hT8, hdis8⟩, ?_⟩
    simp only [sq_n, sq_x, sq_r, bk_n, bk_r, bk_x, rt_r, rt_n, rs_0, rs_t, pk_1, pk_2, up_at, reduceIte, Nat.reduceEqDiff, intOf]; omega
end
end Go.Proofs.YtandbmnhghmcgaaDoor.Col
set_option linter.unusedVariables false
set_option maxRecDepth 8000
namespace Go.X
open Go Go.RowKit
def in64 (n : Int) : Prop := -9223372036854775808 ≤ n ∧ n ≤ 9223372036854775807
theorem in64_of {n : Int} (h : (Lit.int .i64 n).wf = true) : in64 n := by
  simp [Lit.wf, IntKind.min, IntKind.max, IntKind.signed, IntKind.bits, IntKind.has] at h
  unfold in64
  omega
end Go.X
namespace Go.Proofs.YtandbmnhghmcgaaDoor.Col
open Go Go.X Go.RowKit
def shPt : Sh Pt := ⟨6, fun w p cs => cs = p.enc ∧ in64 p.color ∧ in64 p.val⟩
def shAc : Sh Ac := ⟨10, fun w a cs => cs = a.enc ∧ RR w a.rv a.ranks ∧ in64 a.p.color⟩
theorem strV_back (b : ByteArray) : strV b.data.toList = .string b := by unfold strV; rw [Array.toArray_toList]
theorem opensPt (n : Nat) : OpensAt Tryd.prog n shPt 34 :=
  opens_as (opens_struct Tryd.underlying34 (by kernel_rfl) (fun m _ => fields_cons rfl (by kernel_rfl) (opens_int Tryd.underlying5) (fields_cons rfl (by kernel_rfl) (opens_int Tryd.underlying3) (fields_cons rfl (by kernel_rfl) (opens_int Tryd.underlying5)
    (fields_cons rfl (by kernel_rfl) (opens_int Tryd.underlying2) (fields_cons rfl (by kernel_rfl) (opens_int Tryd.underlying3) (fields_one rfl (by kernel_rfl) (opens_int Tryd.underlying3))))))))
    (fun x => (⟨x.1, x.2.1, x.2.2.1, x.2.2.2.1, x.2.2.2.2.1, x.2.2.2.2.2⟩ : Pt))
    (fun w v cs h => by
      obtain ⟨c0, d0, rfl, _, ⟨rfl, h0⟩, c1, d1, rfl, _, ⟨rfl, h1⟩, c2, d2, rfl, _, ⟨rfl, h2⟩, c3, d3, rfl, _, ⟨rfl, h3⟩, c4, d4, rfl, _, ⟨rfl, h4⟩, ⟨h5, h6⟩⟩ := h
      subst h5
      exact ⟨rfl, in64_of h4, in64_of h3⟩)
def shG : Sh ((Value × List Int) × ByteArray) := ⟨2, fun w x cs => cs = [.string x.2, x.1.1] ∧ RR w x.1.1 x.1.2⟩
theorem RR_of {w : World} {x : Value × List Int} {cs : List Value} (h : (Sh.slice (Sh.int .i64)).K w x cs) : cs = [x.1] ∧ RR w x.1 x.2 := by
  refine ⟨h.1, ?_⟩
  have := reads_sh h (fun g => [Value.int .i64 g]) (fun _ => rfl) (fun _ _ hd => hd.1)
  have e : ∀ l : List Int, (l.flatMap fun g => [Value.int .i64 g]) = ints l := fun l => by
    unfold ints
    induction l with
    | nil => rfl
    | cons a l ih => rw [List.flatMap_cons, ih]; rfl
  rw [e] at this
  exact this
theorem opensG (n : Nat) : OpensAt Tryd.prog n shG tG :=
  opens_as (opens_struct Tryd.underlying32 (by kernel_rfl) (fun m _ => fields_cons rfl (by kernel_rfl) (opens_string Tryd.underlying9) (fields_one rfl (by kernel_rfl) (opens_slice vIs (by kernel_rfl) (fun m _ => opens_int vI)))))
    (fun x => ((x.2.1, x.2.2), x.1))
    (fun w v cs h => by
      obtain ⟨c0, d0, rfl, _, ⟨rfl, h0⟩, h1⟩ := h
      obtain ⟨e, hr⟩ := RR_of h1
      subst e
      exact ⟨rfl, hr⟩)
theorem opensAc (n : Nat) : OpensAt Tryd.prog n shAc tAc :=
  opens_as (opens_struct Tryd.underlying36 (by kernel_rfl) (fun m _ => fields_cons rfl (by kernel_rfl) (opensG m) (fields_cons rfl (by kernel_rfl) (opens_int Tryd.underlying3) (fields_cons rfl (by kernel_rfl) (opensPt m) (fields_one rfl (by kernel_rfl) (opens_bool Tryd.underlying4))))))
    (fun x => (⟨x.1.2.data.toList, x.1.1.1, x.1.1.2, x.2.1, x.2.2.1, x.2.2.2⟩ : Ac))
    (fun w v cs h => by
      obtain ⟨c0, d0, rfl, _, ⟨h0, h0r⟩, c1, d1, rfl, _, ⟨rfl, h1⟩, c2, d2, rfl, _, ⟨h2, h2c, _⟩, h3⟩ := h
      subst h0 h2 h3
      refine ⟨?_, h0r, h2c⟩
      show _ = Ac.enc _
      simp only [Ac.enc, strV_back]
      rfl)
theorem opensAcs (n : Nat) : OpensAt Tryd.prog n (Sh.slice shAc) tAcs := opens_slice vAcs (by kernel_rfl) (fun m _ => opensAc m)
theorem sh_mem {α : Type} {k : Sh α} {w : World} {x : Value × List α} {cs : List Value} (h : (Sh.slice k).K w x cs) : ∀ a ∈ x.2, ∃ d, k.K w a d := by
  intro a ha
  obtain ⟨_, _, A, c, hv, hc, hr⟩ := h
  obtain ⟨i, hi⟩ := List.getElem?_of_mem ha
  obtain ⟨_, d, _, _, hd, _⟩ := hr i a hi
  exact ⟨d, hd⟩
theorem Acts_of {w : World} {x : Value × List Ac} {cs : List Value} (h : (Sh.slice shAc).K w x cs) : Acts w x.1 x.2 ∧ ∀ a ∈ x.2, in64 a.p.color :=
  ⟨⟨reads_sh h Ac.enc (fun _ => rfl) (fun _ _ hd => hd.1), fun a ha => by obtain ⟨d, hd⟩ := sh_mem h a ha; exact hd.2.1⟩, fun a ha => by obtain ⟨d, hd⟩ := sh_mem h a ha; exact hd.2.2⟩
theorem gl_of {W : World} (h : laidMetH Tryd.prog [("math/bits.deBruijn32tab", Rows.laid_math_bits_deBruijn32tab), ("math/bits.deBruijn64tab", Rows.laid_math_bits_deBruijn64tab), ("internal/strconv.uint64pow10", Rows.laid_internal_strconv_uint64pow10)] W) : Gl W := by
  rw [MakeChecks.laidMetH_plain _ _ _ (by kernel_rfl)] at h
  obtain ⟨ps, ⟨g, t, cs, fuel, p, q, hg, ht, hv, hd, ⟨g2, t2, cs2, fuel2, p2, q2, hg2, ht2, hv2, hd2, ⟨g3, t3, cs3, fuel3, p3, q3, hg3, ht3, hv3, hd3, _, _⟩, _⟩, _⟩, _⟩ := h
  obtain rfl := Option.some.inj ((show Tryd.prog.globalNamed "internal/strconv.uint64pow10" = some 0 by kernel_rfl).symm.trans hg3)
  obtain rfl := Option.some.inj ((show (Tryd.prog.globals[0]?).map (·.type) = some 175 by kernel_rfl).symm.trans ht3)
  have hc := Lib.cells_of_tab (zs := Lib.pow10Tab) (show Tryd.prog.underlying 175 = some (.array 20 154) by kernel_rfl) (show Tryd.prog.underlying 154 = some (.int .u64) by kernel_rfl) (by kernel_rfl) (by kernel_rfl) (show DataW.trod _ _ _ _ _ _ _ _ _ = some (Lib.tabData .u64 Lib.pow10Tab, _) from hd3)
  unfold Gl Lib.TabIs
  rw [hv3, ← hc]
set_option maxRecDepth 100000 in
theorem bool_of {W : World} {B : Nat} {v : Value} (h : Value.okWide Tryd.prog W .any B 4 v) : ∃ b, v = .bool b := by
  simp only [Value.okWide, vB, Cell.okWide] at h
  cases v <;> simp_all [Cell.ok]
end Go.Proofs.YtandbmnhghmcgaaDoor.Col
