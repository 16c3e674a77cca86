/- Several texts of this repo, one behind the other, without what is not used here. -/
import Derived.Test.YtandbmnhghmcgaaDoorProg
import Derived.Test.YtandbmnhghmcgaaDoorCP2
set_option linter.unusedVariables false
set_option maxRecDepth 100000
namespace Go.Proofs.YtandbmnhghmcgaaDoor.XG
open Go Go.X
noncomputable def dispatcherlaw15_CollPlays_b : Code := (Tryd.f4.body).getD .skip
noncomputable def dispatcherlaw15_CollPlays_L0 : Code := cAt [1, 1, 1, 1, 0, 1, 0, 0] dispatcherlaw15_CollPlays_b
noncomputable def dispatcherlaw15_CollPlays_R1 : Code := cAt [1, 1, 1, 1, 1] dispatcherlaw15_CollPlays_b
noncomputable def dispatcherlaw15_CollPlays_R2 : Code := cAt [1, 1, 1, 1, 0, 1, 0, 0, 1, 1] dispatcherlaw15_CollPlays_b
noncomputable def dispatcherlaw15_CollPlays_R3 : Code := cAt [1, 1, 1, 1, 0, 1, 0, 0, 1, 0, 0, 1, 0, 1, 0, 1, 1, 1] dispatcherlaw15_CollPlays_b
noncomputable def dispatcherlaw15_CollPlays_R4 : Code := cAt [1, 1, 1, 1, 0, 1, 0, 0, 1, 0, 0, 1, 1] dispatcherlaw15_CollPlays_b
noncomputable def dispatcherlaw15_CollPlays_R5 : Code := cAt [1, 1, 1, 1, 0, 1, 0, 0, 1, 0, 0, 1, 1, 1] dispatcherlaw15_CollPlays_b
noncomputable def dispatcherlaw15_CollPlays_R7 : Code := cAt [1, 1, 1, 1, 0, 1, 0, 0, 1, 0, 0, 1, 1, 1, 1, 0] dispatcherlaw15_CollPlays_b
noncomputable def dispatcherlaw15_CollPlays_R8 : Code := cAt [1, 1, 1, 1, 0, 1, 0, 0, 1, 0, 0, 1, 1, 1, 1, 1] dispatcherlaw15_CollPlays_b
noncomputable def dispatcherlaw15_CollPlays_L0_F (z : At) (K : Exit → Sl → World → Prop) (ρ : Sl) (w : World) : Prop :=
  IK Tryd.prog .len #[22] 3 [false] [(ρ 1)] w fun x25 w => BK Tryd.prog .lss 3 (.tmp 23) (.tmp 25) (ρ 7) x25 w fun x26 w => CondK x26 (VK Tryd.prog (Instr.indexAt 22 (ρ 1) (ρ 7)) w fun x31 w => VK Tryd.prog (Instr.loadAt 36 x31) w fun x32 w => VK Tryd.prog (Instr.alloc 36 true (.tuple #[])) w fun x8 w => UK Tryd.prog (Instr.storeAt 36 x8 x32) w fun _ w => VK Tryd.prog (Instr.fieldAt 36 x8 3) w fun x33 w => VK Tryd.prog (Instr.loadAt 4 x33) w fun x34 w => CondK x34 (CK Tryd.prog (Value.func (Fn.func 15) #[] #[]) [(ρ 5)] w fun x37 w => CK Tryd.prog (Value.func (Fn.func 16) #[] #[]) [(ρ 6)] w fun x39 w => VK Tryd.prog (Instr.fieldAt 36 x8 0) w fun x41 w => VK Tryd.prog (Instr.loadAt 32 x41) w fun x42 w => VK Tryd.prog (Instr.fieldAt 36 x8 1) w fun x43 w => VK Tryd.prog (Instr.loadAt 3 x43) w fun x44 w => VK Tryd.prog (Instr.fieldAt 36 x8 2) w fun x45 w => VK Tryd.prog (Instr.loadAt 34 x45) w fun x46 w => CK Tryd.prog (Value.func (Fn.func 12) #[] #[]) [(ρ 5), x42, x44, x46] w fun x47 w => sx z Tryd.prog 132 dispatcherlaw15_CollPlays_R3 (seqK (sx z Tryd.prog 132 dispatcherlaw15_CollPlays_R4 (blkK 1 (seqK (sx z Tryd.prog 132 dispatcherlaw15_CollPlays_R2 K) K))) (blkK 1 (seqK (sx z Tryd.prog 132 dispatcherlaw15_CollPlays_R2 K) K))) (up (up (up (up (up (up (up (up (up (up (up (up (up (up (up (up (up (up (up (up (up (up (up (up (up (up (up ρ 23 (ρ 7)) 24 (ρ 1)) 25 x25) 26 x26) 29 (ρ 1)) 30 (ρ 7)) 31 x31) 32 x32) 8 x8) 33 x33) 34 x34) 35 (ρ 5)) 9 (ρ 5)) 36 (ρ 5)) 37 x37) 38 (ρ 6)) 39 x39) 5 x37) 6 x39) 40 (ρ 5)) 41 x41) 42 x42) 43 x43) 44 x44) 45 x45) 46 x46) 47 x47) w) (VK Tryd.prog (Instr.fieldAt 36 x8 0) w fun x52 w => VK Tryd.prog (Instr.loadAt 32 x52) w fun x53 w => VK Tryd.prog (Instr.fieldAt 36 x8 1) w fun x54 w => VK Tryd.prog (Instr.loadAt 3 x54) w fun x55 w => VK Tryd.prog (Instr.fieldAt 36 x8 2) w fun x56 w => VK Tryd.prog (Instr.loadAt 34 x56) w fun x57 w => CK Tryd.prog (Value.func (Fn.func 12) #[] #[]) [(ρ 5), x53, x55, x57] w fun x58 w => VK Tryd.prog (Instr.extract x58 0) w fun x59 w => VK Tryd.prog (Instr.extract x58 1) w fun x60 w => sx z Tryd.prog 132 dispatcherlaw15_CollPlays_R5 (blkK 1 (seqK (sx z Tryd.prog 132 dispatcherlaw15_CollPlays_R2 K) K)) (up (up (up (up (up (up (up (up (up (up (up (up (up (up (up (up (up (up (up (up (up (up (up (up ρ 23 (ρ 7)) 24 (ρ 1)) 25 x25) 26 x26) 29 (ρ 1)) 30 (ρ 7)) 31 x31) 32 x32) 8 x8) 33 x33) 34 x34) 51 (ρ 5)) 52 x52) 53 x53) 54 x54) 55 x55) 56 x56) 57 x57) 58 x58) 50 x58) 59 x59) 60 x60) 10 x59) 11 x60) w)) (K (.exit 0) (up (up (up (up ρ 23 (ρ 7)) 24 (ρ 1)) 25 x25) 26 x26) w)
theorem dispatcherlaw15_CollPlays_L0_eq (z : At) (K : Exit → Sl → World → Prop) (ρ : Sl) (w : World) : sx z Tryd.prog 132 dispatcherlaw15_CollPlays_L0 K ρ w = dispatcherlaw15_CollPlays_L0_F z K ρ w := by kernel_rfl
theorem dispatcherlaw15_CollPlays_L0_ok : dstOk 132 dispatcherlaw15_CollPlays_L0 = true := by kernel_rfl
noncomputable def dispatcherlaw15_CollPlays_R1_F (z : At) (K : Exit → Sl → World → Prop) (ρ : Sl) (w : World) : Prop :=
  CK Tryd.prog (Value.func (Fn.func 24) #[] #[]) [(ρ 5)] w fun x128 w => CK Tryd.prog (Value.func (Fn.func 25) #[] #[]) [(ρ 6)] w fun x130 w => CK Tryd.prog (Value.func (Fn.func 23) #[] #[]) [x128, x130] w fun x131 w => K .ret (up (up (up (up (up (up ρ 127 (ρ 5)) 128 x128) 129 (ρ 6)) 130 x130) 131 x131) 4 x131) w
theorem dispatcherlaw15_CollPlays_R1_eq (z : At) (K : Exit → Sl → World → Prop) (ρ : Sl) (w : World) : sx z Tryd.prog 132 dispatcherlaw15_CollPlays_R1 K ρ w = dispatcherlaw15_CollPlays_R1_F z K ρ w := by kernel_rfl
noncomputable def dispatcherlaw15_CollPlays_R2_F (z : At) (K : Exit → Sl → World → Prop) (ρ : Sl) (w : World) : Prop :=
  BK Tryd.prog .add 3 (.tmp 27) (.const (Value.int .i64 1)) (ρ 7) (Value.int .i64 1) w fun x28 w => K .normal (up (up (up ρ 27 (ρ 7)) 28 x28) 7 x28) w
theorem dispatcherlaw15_CollPlays_R2_eq (z : At) (K : Exit → Sl → World → Prop) (ρ : Sl) (w : World) : sx z Tryd.prog 132 dispatcherlaw15_CollPlays_R2 K ρ w = dispatcherlaw15_CollPlays_R2_F z K ρ w := by kernel_rfl
noncomputable def dispatcherlaw15_CollPlays_R3_F (z : At) (K : Exit → Sl → World → Prop) (ρ : Sl) (w : World) : Prop :=
  BK Tryd.prog .eql 24 (.tmp 48) (.const (Value.pointer none)) (ρ 5) (Value.pointer none) w fun x49 w => CondK x49 (K .ret (up (up (up ρ 48 (ρ 5)) 49 x49) 4 (Value.bool false)) w) (K (.exit 1) (up (up ρ 48 (ρ 5)) 49 x49) w)
theorem dispatcherlaw15_CollPlays_R3_eq (z : At) (K : Exit → Sl → World → Prop) (ρ : Sl) (w : World) : sx z Tryd.prog 132 dispatcherlaw15_CollPlays_R3 K ρ w = dispatcherlaw15_CollPlays_R3_F z K ρ w := by kernel_rfl
noncomputable def dispatcherlaw15_CollPlays_R5_F (z : At) (K : Exit → Sl → World → Prop) (ρ : Sl) (w : World) : Prop :=
  VK Tryd.prog (Instr.fieldAt 36 (ρ 8) 0) w fun x63_1 w => VK Tryd.prog (Instr.loadAt 32 x63_1) w fun x64_1 w => VK Tryd.prog (Instr.fieldAt 36 (ρ 8) 1) w fun x65_1 w => VK Tryd.prog (Instr.loadAt 3 x65_1) w fun x66_1 w => VK Tryd.prog (Instr.fieldAt 36 (ρ 8) 2) w fun x67_1 w => VK Tryd.prog (Instr.loadAt 34 x67_1) w fun x68_1 w => CK Tryd.prog (Value.func (Fn.func 13) #[] #[]) [(ρ 6), x64_1, x66_1, x68_1] w fun x69_1 w => VK Tryd.prog (Instr.extract x69_1 0) w fun x70_1 w => VK Tryd.prog (Instr.extract x69_1 1) w fun x71_1 w => W z Tryd.prog 132 dispatcherlaw15_CollPlays_R7 (seqK (sx z Tryd.prog 132 dispatcherlaw15_CollPlays_R8 K) K) (up (up (up (up (up (up (up (up (up (up (up (up (up ρ 62 (ρ 6)) 63 x63_1) 64 x64_1) 65 x65_1) 66 x66_1) 67 x67_1) 68 x68_1) 69 x69_1) 61 x69_1) 70 x70_1) 71 x71_1) 12 x70_1) 13 x71_1) w
theorem dispatcherlaw15_CollPlays_R5_eq (z : At) (K : Exit → Sl → World → Prop) (ρ : Sl) (w : World) : sx z Tryd.prog 132 dispatcherlaw15_CollPlays_R5 K ρ w = dispatcherlaw15_CollPlays_R5_F z K ρ w := by kernel_rfl
noncomputable def dispatcherlaw15_CollPlays_R7_ops : Array Oper := opsOf dispatcherlaw15_CollPlays_R7
def dispatcherlaw15_CollPlays_R7_Q (C : World → Prop) (K : Exit → Sl → World → Prop) (ρ : Sl) : Prop :=
  QK Tryd.prog C (do pure (Next.value (← (do eqGuard BinOp.neq 3 (Operand.tmp 72) (Operand.tmp 73) (ρ 10) (ρ 12); binOp BinOp.neq 3 (ρ 10) (ρ 12))))) fun x74 => QG Tryd.prog C x74 false  (pure (Next.value (ρ 11))) fun x76 => QG Tryd.prog C x74 false  (pure (Next.value (ρ 13))) fun x77 => QG Tryd.prog C x74 false  (do pure (Next.value (← (do eqGuard BinOp.neq 3 (Operand.tmp 76) (Operand.tmp 77) x76 x77; binOp BinOp.neq 3 x76 x77)))) fun x78 => QK Tryd.prog C (do pure (Next.value (if ← asBool x74 then (Value.bool true) else x78))) fun x79 => QG Tryd.prog C x79 false  (pure (Next.value (ρ 5))) fun x81 => QG Tryd.prog C x79 false  (do pure (Next.value (← Instr.fieldAt 36 (ρ 8) 0))) fun x82 => QG Tryd.prog C x79 false  (do pure (Next.value (← Instr.fieldAt 32 x82 0))) fun x83 => QG Tryd.prog C x79 false  (do pure (Next.value (← Instr.loadAt 9 x83))) fun x84 => QG Tryd.prog C x79 false  (do pure (Next.value (← Instr.fieldAt 36 (ρ 8) 1))) fun x85 => QG Tryd.prog C x79 false  (do pure (Next.value (← Instr.loadAt 3 x85))) fun x86 => QG Tryd.prog C x79 false  (do let d ← Deferred.ofValue (Value.func (Fn.func 17) #[] #[]) [x81, x84, x86].toArray; invoke d.target d.args) fun x87 => QG Tryd.prog C x79 false  (pure (Next.value (ρ 6))) fun x88 => QG Tryd.prog C x79 false  (do pure (Next.value (← Instr.fieldAt 36 (ρ 8) 0))) fun x89 => QG Tryd.prog C x79 false  (do pure (Next.value (← Instr.fieldAt 32 x89 0))) fun x90 => QG Tryd.prog C x79 false  (do pure (Next.value (← Instr.loadAt 9 x90))) fun x91 => QG Tryd.prog C x79 false  (do pure (Next.value (← Instr.fieldAt 36 (ρ 8) 1))) fun x92 => QG Tryd.prog C x79 false  (do pure (Next.value (← Instr.loadAt 3 x92))) fun x93 => QG Tryd.prog C x79 false  (do let d ← Deferred.ofValue (Value.func (Fn.func 18) #[] #[]) [x88, x91, x93].toArray; invoke d.target d.args) fun x94 => QG Tryd.prog C x79 false  (do pure (Next.value (← (do eqGuard BinOp.neq 3 (Operand.tmp 87) (Operand.tmp 94) x87 x94; binOp BinOp.neq 3 x87 x94)))) fun x95 => QK Tryd.prog C (do pure (Next.value (if ← asBool x79 then (Value.bool true) else x95))) fun x96 => QG Tryd.prog C x96 false  (do pure (Next.value (← Instr.fieldAt 36 (ρ 8) 0))) fun x98 => QG Tryd.prog C x96 false  (do pure (Next.value (← Instr.loadAt 32 x98))) fun x99 => QG Tryd.prog C x96 false  (do pure (Next.value (← Instr.fieldAt 36 (ρ 8) 2))) fun x100 => QG Tryd.prog C x96 false  (do pure (Next.value (← Instr.loadAt 34 x100))) fun x101 => QG Tryd.prog C x96 false  (do let d ← Deferred.ofValue (Value.func (Fn.func 19) #[] #[]) [x99, x101].toArray; invoke d.target d.args) fun x102 => QG Tryd.prog C x96 false  (do pure (Next.value (← Instr.fieldAt 36 (ρ 8) 0))) fun x103 => QG Tryd.prog C x96 false  (do pure (Next.value (← Instr.loadAt 32 x103))) fun x104 => QG Tryd.prog C x96 false  (do pure (Next.value (← Instr.fieldAt 36 (ρ 8) 2))) fun x105 => QG Tryd.prog C x96 false  (do pure (Next.value (← Instr.loadAt 34 x105))) fun x106 => QG Tryd.prog C x96 false  (do let d ← Deferred.ofValue (Value.func (Fn.func 20) #[] #[]) [x104, x106].toArray; invoke d.target d.args) fun x107 => QG Tryd.prog C x96 false  (do pure (Next.value (← (do eqGuard BinOp.neq 4 (Operand.tmp 102) (Operand.tmp 107) x102 x107; binOp BinOp.neq 4 x102 x107)))) fun x108 => QK Tryd.prog C (do pure (Next.value (if ← asBool x96 then (Value.bool true) else x108))) fun x109 => QG Tryd.prog C x109 false  (do pure (Next.value (← Instr.fieldAt 36 (ρ 8) 2))) fun x111 => QG Tryd.prog C x109 false  (do pure (Next.value (← Instr.loadAt 34 x111))) fun x112 => QG Tryd.prog C x109 false  (pure (Next.value (ρ 1))) fun x113 => QG Tryd.prog C x109 false  (do pure (Next.value (← Instr.indexAt 22 x113 (Value.int IntKind.i64 0)))) fun x114 => QG Tryd.prog C x109 false  (do pure (Next.value (← Instr.fieldAt 36 x114 2))) fun x115 => QG Tryd.prog C x109 false  (do pure (Next.value (← Instr.loadAt 34 x115))) fun x116 => QG Tryd.prog C x109 false  (do let d ← Deferred.ofValue (Value.func (Fn.func 21) #[] #[]) [x112, x116].toArray; invoke d.target d.args) fun x117 => QG Tryd.prog C x109 false  (do pure (Next.value (← Instr.fieldAt 36 (ρ 8) 2))) fun x118 => QG Tryd.prog C x109 false  (do pure (Next.value (← Instr.loadAt 34 x118))) fun x119 => QG Tryd.prog C x109 false  (pure (Next.value (ρ 1))) fun x120 => QG Tryd.prog C x109 false  (do pure (Next.value (← Instr.indexAt 22 x120 (Value.int IntKind.i64 0)))) fun x121 => QG Tryd.prog C x109 false  (do pure (Next.value (← Instr.fieldAt 36 x121 2))) fun x122 => QG Tryd.prog C x109 false  (do pure (Next.value (← Instr.loadAt 34 x122))) fun x123 => QG Tryd.prog C x109 false  (do let d ← Deferred.ofValue (Value.func (Fn.func 22) #[] #[]) [x119, x123].toArray; invoke d.target d.args) fun x124 => QG Tryd.prog C x109 false  (do pure (Next.value (← (do eqGuard BinOp.neq 4 (Operand.tmp 117) (Operand.tmp 124) x117 x124; binOp BinOp.neq 4 x117 x124)))) fun x125 => QK Tryd.prog C (do pure (Next.value (if ← asBool x109 then (Value.bool true) else x125))) fun x126 => ∀ w', C w' → K Exit.normal (up (up (up (up (up (up (up (up (up (up (up (up (up (up (up (up (up (up (up (up (up (up (up (up (up (up (up (up (up (up (up (up (up (up (up (up (up (up (up (up (up (up (up (up (up (up (up (up (up (up (up (up (up (up (up ρ 72 (ρ 10)) 73 (ρ 12)) 74 x74) 75 x74) 76 x76) 77 x77) 78 x78) 79 x79) 80 x79) 81 x81) 82 x82) 83 x83) 84 x84) 85 x85) 86 x86) 87 x87) 88 x88) 89 x89) 90 x90) 91 x91) 92 x92) 93 x93) 94 x94) 95 x95) 96 x96) 97 x96) 98 x98) 99 x99) 100 x100) 101 x101) 102 x102) 103 x103) 104 x104) 105 x105) 106 x106) 107 x107) 108 x108) 109 x109) 110 x109) 111 x111) 112 x112) 113 x113) 114 x114) 115 x115) 116 x116) 117 x117) 118 x118) 119 x119) 120 x120) 121 x121) 122 x122) 123 x123) 124 x124) 125 x125) 126 x126) w'
theorem dispatcherlaw15_CollPlays_R7_quiet {D : List Deferred} (C : World → Prop) {K : Exit → Sl → World → Prop} {ρ : Sl} {w : World} (hC : C { w with drawn := w.drawn + 1 }) (h : dispatcherlaw15_CollPlays_R7_Q C K ρ) : W ⟨none, D⟩ Tryd.prog 132 dispatcherlaw15_CollPlays_R7 K ρ w := by
  have e : dispatcherlaw15_CollPlays_R7 = .region (idOf dispatcherlaw15_CollPlays_R7) dispatcherlaw15_CollPlays_R7_ops true := by kernel_rfl
  have q : sxq Tryd.prog C dispatcherlaw15_CollPlays_R7_ops (fun ρ' => ∀ w', C w' → K .normal ρ' w') dispatcherlaw15_CollPlays_R7_ops.toList ρ = dispatcherlaw15_CollPlays_R7_Q C K ρ := by kernel_rfl
  rw [e]
  exact W_quiet C (by kernel_rfl) (by kernel_rfl) (by kernel_rfl) hC (Eq.mpr q h)
noncomputable def dispatcherlaw15_CollPlays_R8_F (z : At) (K : Exit → Sl → World → Prop) (ρ : Sl) (w : World) : Prop :=
  CondK (ρ 126) (K .ret (up ρ 4 (Value.bool false)) w) (K .normal ρ w)
theorem dispatcherlaw15_CollPlays_R8_eq (z : At) (K : Exit → Sl → World → Prop) (ρ : Sl) (w : World) : sx z Tryd.prog 132 dispatcherlaw15_CollPlays_R8 K ρ w = dispatcherlaw15_CollPlays_R8_F z K ρ w := by kernel_rfl
noncomputable def dispatcherlaw15_CollPlays_F (a0 a1 : Value) (w : World) (R : Value → World → Prop) : Prop :=
  CK Tryd.prog (Value.func (Fn.func 10) #[] #[]) [a1] w fun x15 w => CondK x15 (R (Value.bool true) w) (CK Tryd.prog (Value.func (Fn.func 11) #[] #[]) [a0] w fun x17 w => VK Tryd.prog (Instr.build 29 [(0, a0)].toArray) w fun x19 w => VK Tryd.prog (Instr.box 29 x19) w fun x20 w => BK Tryd.prog .eql 24 (.tmp 21) (.const (Value.pointer none)) x17 (Value.pointer none) w fun x22 w => CondK x22 (R (Value.bool false) w) (W fn_ Tryd.prog 132 (Code.loop dispatcherlaw15_CollPlays_L0) (blkK 0 (seqK (sx fn_ Tryd.prog 132 dispatcherlaw15_CollPlays_R1 (retK Tryd.prog [ResultVar.tmp 4] R)) (retK Tryd.prog [ResultVar.tmp 4] R))) (up (up (up (up (up (up (up (up (up (up (up (up (up (rho0 [a0, a1]) 4 (Value.bool false)) 14 a1) 15 x15) 16 a0) 17 x17) 18 a0) 19 x19) 20 x20) 5 x17) 6 x20) 21 x17) 22 x22) 7 (Value.int .i64 0)) w))
theorem dispatcherlaw15_CollPlays_eq (a0 a1 : Value) (w : World) (R : Value → World → Prop) : sx fn_ Tryd.prog 132 dispatcherlaw15_CollPlays_b (retK Tryd.prog Tryd.f4.results.toList R) (rho0 [a0, a1]) w = dispatcherlaw15_CollPlays_F a0 a1 w R := by kernel_rfl
theorem dispatcherlaw15_CollPlays_calls {a0 a1 : Value} {w : World} {R : Value → World → Prop} (h : dispatcherlaw15_CollPlays_F a0 a1 w R) : Calls Tryd.prog 4 #[a0, a1] w fun e w' => ∃ v, e = .returned v ∧ R v w' :=
  Go.X.calls_of_sx (n := 132) (c := dispatcherlaw15_CollPlays_b) Tryd.func4 (by kernel_rfl) (by kernel_rfl) (Nat.le_of_ble_eq_true rfl) (by kernel_rfl) (Eq.mpr (dispatcherlaw15_CollPlays_eq a0 a1 w R) h)
noncomputable def dispatcherlaw15_Great_b : Code := (Tryd.f10.body).getD .skip
noncomputable def dispatcherlaw15_Great_L0 : Code := cAt [1, 1, 0, 1, 0, 0] dispatcherlaw15_Great_b
noncomputable def dispatcherlaw15_Great_R1 : Code := cAt [1, 1, 1] dispatcherlaw15_Great_b
noncomputable def dispatcherlaw15_Great_L0_F (z : At) (K : Exit → Sl → World → Prop) (ρ : Sl) (w : World) : Prop :=
  IK Tryd.prog .len #[22] 3 [false] [(ρ 0)] w fun x9 w => BK Tryd.prog .lss 3 (.tmp 7) (.tmp 9) (ρ 3) x9 w fun x10 w => CondK x10 (VK Tryd.prog (Instr.indexAt 22 (ρ 0) (ρ 3)) w fun x15 w => VK Tryd.prog (Instr.fieldAt 36 x15 0) w fun x16 w => VK Tryd.prog (Instr.loadAt 32 x16) w fun x17 w => CK Tryd.prog (Value.func (Fn.func 33) #[] #[]) [x17] w fun x18 w => MG Tryd.prog x18 false (ρ 0) w fun x20 w => MG Tryd.prog x18 false (ρ 3) w fun x21 w => VG Tryd.prog x18 false (Instr.indexAt 22 x20 x21) w fun x22 w => VG Tryd.prog x18 false (Instr.fieldAt 36 x22 0) w fun x23 w => VG Tryd.prog x18 false (Instr.fieldAt 32 x23 1) w fun x24 w => VG Tryd.prog x18 false (Instr.loadAt 30 x24) w fun x25 w => IG Tryd.prog x18 false .len #[30] 3 [false] [x25] w fun x26 w => BG Tryd.prog x18 false .gtr 3 (.tmp 26) (.const (Value.int .i64 8)) x26 (Value.int .i64 8) w fun x27 w => PK Tryd.prog x18 (Value.bool true) x27 w fun x28 w => CondK x28 (K .ret (up (up (up (up (up (up (up (up (up (up (up (up (up (up (up (up (up (up (up (up (up ρ 7 (ρ 3)) 8 (ρ 0)) 9 x9) 10 x10) 13 (ρ 0)) 14 (ρ 3)) 15 x15) 16 x16) 17 x17) 18 x18) 19 x18) 20 x20) 21 x21) 22 x22) 23 x23) 24 x24) 25 x25) 26 x26) 27 x27) 28 x28) 2 (Value.bool true)) w) (BK Tryd.prog .add 3 (.tmp 11) (.const (Value.int .i64 1)) (ρ 3) (Value.int .i64 1) w fun x12 w => K .normal (up (up (up (up (up (up (up (up (up (up (up (up (up (up (up (up (up (up (up (up (up (up (up ρ 7 (ρ 3)) 8 (ρ 0)) 9 x9) 10 x10) 13 (ρ 0)) 14 (ρ 3)) 15 x15) 16 x16) 17 x17) 18 x18) 19 x18) 20 x20) 21 x21) 22 x22) 23 x23) 24 x24) 25 x25) 26 x26) 27 x27) 28 x28) 11 (ρ 3)) 12 x12) 3 x12) w)) (K (.exit 0) (up (up (up (up ρ 7 (ρ 3)) 8 (ρ 0)) 9 x9) 10 x10) w)
theorem dispatcherlaw15_Great_L0_eq (z : At) (K : Exit → Sl → World → Prop) (ρ : Sl) (w : World) : sx z Tryd.prog 29 dispatcherlaw15_Great_L0 K ρ w = dispatcherlaw15_Great_L0_F z K ρ w := by kernel_rfl
theorem dispatcherlaw15_Great_L0_ok : dstOk 29 dispatcherlaw15_Great_L0 = true := by kernel_rfl
noncomputable def dispatcherlaw15_Great_R1_F (z : At) (K : Exit → Sl → World → Prop) (ρ : Sl) (w : World) : Prop :=
  K .ret (up ρ 2 (Value.bool false)) w
theorem dispatcherlaw15_Great_R1_eq (z : At) (K : Exit → Sl → World → Prop) (ρ : Sl) (w : World) : sx z Tryd.prog 29 dispatcherlaw15_Great_R1 K ρ w = dispatcherlaw15_Great_R1_F z K ρ w := by kernel_rfl
noncomputable def dispatcherlaw15_Great_F (a0 : Value) (w : World) (R : Value → World → Prop) : Prop :=
  IK Tryd.prog .len #[22] 3 [false] [a0] w fun x5 w => BK Tryd.prog .gtr 3 (.tmp 5) (.const (Value.int .i64 80)) x5 (Value.int .i64 80) w fun x6 w => CondK x6 (R (Value.bool true) w) (W fn_ Tryd.prog 29 (Code.loop dispatcherlaw15_Great_L0) (blkK 0 (seqK (sx fn_ Tryd.prog 29 dispatcherlaw15_Great_R1 (retK Tryd.prog [ResultVar.tmp 2] R)) (retK Tryd.prog [ResultVar.tmp 2] R))) (up (up (up (up (up (rho0 [a0]) 2 (Value.bool false)) 4 a0) 5 x5) 6 x6) 3 (Value.int .i64 0)) w)
theorem dispatcherlaw15_Great_eq (a0 : Value) (w : World) (R : Value → World → Prop) : sx fn_ Tryd.prog 29 dispatcherlaw15_Great_b (retK Tryd.prog Tryd.f10.results.toList R) (rho0 [a0]) w = dispatcherlaw15_Great_F a0 w R := by kernel_rfl
theorem dispatcherlaw15_Great_calls {a0 : Value} {w : World} {R : Value → World → Prop} (h : dispatcherlaw15_Great_F a0 w R) : Calls Tryd.prog 10 #[a0] w fun e w' => ∃ v, e = .returned v ∧ R v w' :=
  Go.X.calls_of_sx (n := 29) (c := dispatcherlaw15_Great_b) Tryd.func10 (by kernel_rfl) (by kernel_rfl) (Nat.le_of_ble_eq_true rfl) (by kernel_rfl) (Eq.mpr (dispatcherlaw15_Great_eq a0 w R) h)
noncomputable def dispatcherref15_Coll_Bring_b : Code := (Tryd.f13.body).getD .skip
noncomputable def dispatcherref15_Coll_Bring_R0 : Code := cAt [1, 1, 1, 0, 1] dispatcherref15_Coll_Bring_b
noncomputable def dispatcherref15_Coll_Bring_R1 : Code := cAt [1, 1, 1, 1] dispatcherref15_Coll_Bring_b
noncomputable def dispatcherref15_Coll_Bring_R2 : Code := cAt [1, 1, 1, 1, 1, 0] dispatcherref15_Coll_Bring_b
noncomputable def dispatcherref15_Coll_Bring_R3 : Code := cAt [1, 1, 1, 1, 1, 1] dispatcherref15_Coll_Bring_b
noncomputable def dispatcherref15_Coll_Bring_R0_F (z : At) (K : Exit → Sl → World → Prop) (ρ : Sl) (w : World) : Prop :=
  CondK (ρ 49) (K .ret (up (up ρ 8 (Value.int .i64 0)) 9 (Value.int .i64 2)) w) (K .normal ρ w)
theorem dispatcherref15_Coll_Bring_R0_eq (z : At) (K : Exit → Sl → World → Prop) (ρ : Sl) (w : World) : sx z Tryd.prog 70 dispatcherref15_Coll_Bring_R0 K ρ w = dispatcherref15_Coll_Bring_R0_F z K ρ w := by kernel_rfl
noncomputable def dispatcherref15_Coll_Bring_R1_F (z : At) (K : Exit → Sl → World → Prop) (ρ : Sl) (w : World) : Prop :=
  VK Tryd.prog (Instr.fieldAt 32 (ρ 5) 0) w fun x51 w => VK Tryd.prog (Instr.loadAt 9 x51) w fun x52 w => CK Tryd.prog (Value.func (Fn.func 18) #[] #[]) [(ρ 0), x52, (ρ 2)] w fun x54 w => W z Tryd.prog 70 dispatcherref15_Coll_Bring_R2 (seqK (sx z Tryd.prog 70 dispatcherref15_Coll_Bring_R3 K) K) (up (up (up (up (up (up ρ 50 (ρ 0)) 51 x51) 52 x52) 53 (ρ 2)) 54 x54) 14 x54) w
theorem dispatcherref15_Coll_Bring_R1_eq (z : At) (K : Exit → Sl → World → Prop) (ρ : Sl) (w : World) : sx z Tryd.prog 70 dispatcherref15_Coll_Bring_R1 K ρ w = dispatcherref15_Coll_Bring_R1_F z K ρ w := by kernel_rfl
noncomputable def dispatcherref15_Coll_Bring_R2_ops : Array Oper := opsOf dispatcherref15_Coll_Bring_R2
def dispatcherref15_Coll_Bring_R2_H (S : World → Prop) (K : Exit → Sl → World → Prop) (ρ : Sl) (w : World) : Prop :=
  HK Tryd.prog S (nilCk (ρ 0)) fun x57 => HK Tryd.prog S (do pure (Next.value (← Instr.fieldAt 29 x57 1))) fun x58 => HK Tryd.prog S (do pure (Next.value (← Instr.loadAt 32 (ρ 5)))) fun x60 => HK Tryd.prog S (do pure (Next.value (← Instr.loadAt 34 (ρ 7)))) fun x63 => (VK Tryd.prog (Instr.loadAt 27 x58) w fun x59 w => S w ∧ (CK Tryd.prog (Value.func (Fn.func 43) #[] #[]) [x60] w fun x61 w => S w ∧ (HK Tryd.prog S (do pure (Next.value (← Instr.build 88 [(0, x61), (1, (ρ 2)), (2, x63)].toArray))) fun x64 => VK Tryd.prog (Instr.buildSlice 27 1 [(0, x64)].toArray) w fun x65 w => S w ∧ (IK Tryd.prog Builtin.append #[27, 27] 27 [false, false] [x59, x65] w fun x66 w => S w ∧ (HK Tryd.prog S (nilCk (ρ 0)) fun x67 => HK Tryd.prog S (do pure (Next.value (← Instr.fieldAt 29 x67 1))) fun x68 => UK Tryd.prog (Instr.storeAt 27 x68 x66) w fun _ w => S w ∧ (K Exit.normal (up (up (up (up (up (up (up (up (up (up (up (up (up (up ρ 55 (ρ 0)) 56 (ρ 0)) 57 x57) 58 x58) 60 x60) 62 (ρ 2)) 63 x63) 59 x59) 61 x61) 64 x64) 65 x65) 66 x66) 67 x67) 68 x68) w)))))) ∧ (CK Tryd.prog (Value.func (Fn.func 43) #[] #[]) [x60] w fun x61_1 w => S w ∧ (HK Tryd.prog S (do pure (Next.value (← Instr.build 88 [(0, x61_1), (1, (ρ 2)), (2, x63)].toArray))) fun x64_1 => (VK Tryd.prog (Instr.loadAt 27 x58) w fun x59_1 w => S w ∧ (VK Tryd.prog (Instr.buildSlice 27 1 [(0, x64_1)].toArray) w fun x65_1 w => S w ∧ (IK Tryd.prog Builtin.append #[27, 27] 27 [false, false] [x59_1, x65_1] w fun x66_1 w => S w ∧ (HK Tryd.prog S (nilCk (ρ 0)) fun x67_1 => HK Tryd.prog S (do pure (Next.value (← Instr.fieldAt 29 x67_1 1))) fun x68_1 => UK Tryd.prog (Instr.storeAt 27 x68_1 x66_1) w fun _ w => S w ∧ (K Exit.normal (up (up (up (up (up (up (up (up (up (up (up (up (up (up ρ 55 (ρ 0)) 56 (ρ 0)) 57 x57) 58 x58) 60 x60) 62 (ρ 2)) 63 x63) 61 x61_1) 64 x64_1) 59 x59_1) 65 x65_1) 66 x66_1) 67 x67_1) 68 x68_1) w))))) ∧ (VK Tryd.prog (Instr.buildSlice 27 1 [(0, x64_1)].toArray) w fun x65_2 w => S w ∧ (VK Tryd.prog (Instr.loadAt 27 x58) w fun x59_2 w => S w ∧ (IK Tryd.prog Builtin.append #[27, 27] 27 [false, false] [x59_2, x65_2] w fun x66_2 w => S w ∧ (HK Tryd.prog S (nilCk (ρ 0)) fun x67_2 => HK Tryd.prog S (do pure (Next.value (← Instr.fieldAt 29 x67_2 1))) fun x68_2 => UK Tryd.prog (Instr.storeAt 27 x68_2 x66_2) w fun _ w => S w ∧ (K Exit.normal (up (up (up (up (up (up (up (up (up (up (up (up (up (up ρ 55 (ρ 0)) 56 (ρ 0)) 57 x57) 58 x58) 60 x60) 62 (ρ 2)) 63 x63) 61 x61_1) 64 x64_1) 65 x65_2) 59 x59_2) 66 x66_2) 67 x67_2) 68 x68_2) w)))))))
theorem dispatcherref15_Coll_Bring_R2_held {D : List Deferred} (S : World → Prop) {K : Exit → Sl → World → Prop} {ρ : Sl} {w : World} (hS : S { w with drawn := w.drawn + 1 }) (h : dispatcherref15_Coll_Bring_R2_H S K ρ { w with drawn := w.drawn + 1 }) : W ⟨none, D⟩ Tryd.prog 70 dispatcherref15_Coll_Bring_R2 K ρ w := by
  have e : dispatcherref15_Coll_Bring_R2 = .region (idOf dispatcherref15_Coll_Bring_R2) dispatcherref15_Coll_Bring_R2_ops true := by kernel_rfl
  have q : sxd Tryd.prog S dispatcherref15_Coll_Bring_R2_ops (K .normal) (Pd.take 0 (Pd.take 1 (Pd.take 2 (Pd.take 3 (Pd.take 5 (Pd.take 7 (Pd.take 8 (Pd.two false false 4 6 (Pd.only false 6 (Pd.take 9 (Pd.only false 10 (Pd.only false 11 (Pd.take 12 (Pd.take 13 (Pd.only false 14 Pd.done))))))) (Pd.take 9 (Pd.two false false 4 10 (Pd.only false 10 (Pd.only false 11 (Pd.take 12 (Pd.take 13 (Pd.only false 14 Pd.done))))) (Pd.only false 4 (Pd.only false 11 (Pd.take 12 (Pd.take 13 (Pd.only false 14 Pd.done))))))))))))))) ρ { w with drawn := w.drawn + 1 } = dispatcherref15_Coll_Bring_R2_H S K ρ { w with drawn := w.drawn + 1 } := by kernel_rfl
  rw [e]
  exact W_pland S (Pd.take 0 (Pd.take 1 (Pd.take 2 (Pd.take 3 (Pd.take 5 (Pd.take 7 (Pd.take 8 (Pd.two false false 4 6 (Pd.only false 6 (Pd.take 9 (Pd.only false 10 (Pd.only false 11 (Pd.take 12 (Pd.take 13 (Pd.only false 14 Pd.done))))))) (Pd.take 9 (Pd.two false false 4 10 (Pd.only false 10 (Pd.only false 11 (Pd.take 12 (Pd.take 13 (Pd.only false 14 Pd.done))))) (Pd.only false 4 (Pd.only false 11 (Pd.take 12 (Pd.take 13 (Pd.only false 14 Pd.done))))))))))))))) (by kernel_rfl) (by kernel_rfl) (by kernel_rfl) (by kernel_rfl) hS (Eq.mpr q h)
noncomputable def dispatcherref15_Coll_Bring_R3_F (z : At) (K : Exit → Sl → World → Prop) (ρ : Sl) (w : World) : Prop :=
  K .ret (up (up (up ρ 69 (ρ 14)) 8 (ρ 14)) 9 (Value.int .i64 0)) w
theorem dispatcherref15_Coll_Bring_R3_eq (z : At) (K : Exit → Sl → World → Prop) (ρ : Sl) (w : World) : sx z Tryd.prog 70 dispatcherref15_Coll_Bring_R3 K ρ w = dispatcherref15_Coll_Bring_R3_F z K ρ w := by kernel_rfl
noncomputable def dispatcherref15_Coll_Bring_F (a0 a1 a2 a3 : Value) (w : World) (R : Value → World → Prop) : Prop :=
  VK Tryd.prog (Instr.box 32 a1) w fun x5 w => VK Tryd.prog (Instr.box 34 a3) w fun x7 w => VK Tryd.prog (Instr.fieldAt 32 x5 0) w fun x17 w => VK Tryd.prog (Instr.loadAt 9 x17) w fun x18 w => CK Tryd.prog (Value.func (Fn.func 39) #[] #[]) [a0, x18] w fun x19 w => VK Tryd.prog (Instr.extract x19 0) w fun x20 w => VK Tryd.prog (Instr.extract x19 1) w fun x21 w => VK Tryd.prog (Instr.alloc 32 true (.tuple #[])) w fun x10 w => UK Tryd.prog (Instr.storeAt 32 x10 x20) w fun _ w => VK Tryd.prog (Instr.loadAt 32 x5) w fun x23 w => CK Tryd.prog (Value.func (Fn.func 40) #[] #[]) [x23, a2] w fun x25 w => VK Tryd.prog (Instr.extract x25 0) w fun x26 w => VK Tryd.prog (Instr.extract x25 1) w fun x27 w => VK Tryd.prog (Instr.loadAt 32 x5) w fun x28 w => CK Tryd.prog (Value.func (Fn.func 41) #[] #[]) [x28] w fun x29 w => VK Tryd.prog (Op.unary UnOp.not x29) w fun x30 w => MG Tryd.prog x30 false x27 w fun x32 w => VG Tryd.prog x30 false (Op.unary UnOp.not x32) w fun x33 w => PK Tryd.prog x30 (Value.bool true) x33 w fun x34 w => MG Tryd.prog x34 false x21 w fun x36 w => MG Tryd.prog x34 false x36 w fun x37 w => VG Tryd.prog x37 true (Instr.loadAt 32 x10) w fun x38 w => VG Tryd.prog x37 true (Instr.loadAt 32 x5) w fun x39 w => CG Tryd.prog x37 true (Value.func (Fn.func 42) #[] #[]) [x38, x39] w fun x40 w => VG Tryd.prog x37 true (Op.unary UnOp.not x40) w fun x41 w => PG Tryd.prog x34 false x37 x41 (Value.bool false) w fun x42 w => PK Tryd.prog x34 (Value.bool true) x42 w fun x43 w => VG Tryd.prog x43 false (Instr.loadAt 32 x5) w fun x45 w => VG Tryd.prog x43 false (Instr.loadAt 34 x7) w fun x46 w => CG Tryd.prog x43 false (Value.func (Fn.func 20) #[] #[]) [x45, x46] w fun x47 w => VG Tryd.prog x43 false (Op.unary UnOp.not x47) w fun x48 w => PK Tryd.prog x43 (Value.bool true) x48 w fun x49 w => sx fn_ Tryd.prog 70 dispatcherref15_Coll_Bring_R0 (seqK (sx fn_ Tryd.prog 70 dispatcherref15_Coll_Bring_R1 (retK Tryd.prog [ResultVar.tmp 8, ResultVar.tmp 9] R)) (retK Tryd.prog [ResultVar.tmp 8, ResultVar.tmp 9] R)) (up (up (up (up (up (up (up (up (up (up (up (up (up (up (up (up (up (up (up (up (up (up (up (up (up (up (up (up (up (up (up (up (up (up (up (up (up (up (up (up (up (up (up (rho0 [a0, a1, a2, a3]) 5 x5) 7 x7) 8 (Value.int .i64 0)) 9 (Value.int .i64 0)) 16 a0) 17 x17) 18 x18) 19 x19) 15 x19) 20 x20) 21 x21) 10 x10) 11 x21) 23 x23) 24 a2) 25 x25) 22 x25) 26 x26) 27 x27) 12 x26) 13 x27) 28 x28) 29 x29) 30 x30) 31 x30) 32 x32) 33 x33) 34 x34) 35 x34) 36 x36) 37 x37) 38 x38) 39 x39) 40 x40) 41 x41) 42 x42) 43 x43) 44 x43) 45 x45) 46 x46) 47 x47) 48 x48) 49 x49) w
theorem dispatcherref15_Coll_Bring_eq (a0 a1 a2 a3 : Value) (w : World) (R : Value → World → Prop) : sx fn_ Tryd.prog 70 dispatcherref15_Coll_Bring_b (retK Tryd.prog Tryd.f13.results.toList R) (rho0 [a0, a1, a2, a3]) w = dispatcherref15_Coll_Bring_F a0 a1 a2 a3 w R := by kernel_rfl
theorem dispatcherref15_Coll_Bring_calls {a0 a1 a2 a3 : Value} {w : World} {R : Value → World → Prop} (h : dispatcherref15_Coll_Bring_F a0 a1 a2 a3 w R) : Calls Tryd.prog 13 #[a0, a1, a2, a3] w fun e w' => ∃ v, e = .returned v ∧ R v w' :=
  Go.X.calls_of_sx (n := 70) (c := dispatcherref15_Coll_Bring_b) Tryd.func13 (by kernel_rfl) (by kernel_rfl) (Nat.le_of_ble_eq_true rfl) (by kernel_rfl) (Eq.mpr (dispatcherref15_Coll_Bring_eq a0 a1 a2 a3 w R) h)
noncomputable def dispatcherref15_Coll_Copy_b : Code := (Tryd.f16.body).getD .skip
noncomputable def dispatcherref15_Coll_Copy_R0 : Code := cAt [1, 0] dispatcherref15_Coll_Copy_b
noncomputable def dispatcherref15_Coll_Copy_R1 : Code := cAt [1, 1] dispatcherref15_Coll_Copy_b
noncomputable def dispatcherref15_Coll_Copy_R0_ops : Array Oper := opsOf dispatcherref15_Coll_Copy_R0
def dispatcherref15_Coll_Copy_R0_H0 (S : World → Prop) (K : Sl → World → Prop) (ρ : Sl) (w : World) : Prop :=
  HK Tryd.prog S (nilCk (ρ 0)) fun x4 => HK Tryd.prog S (do pure (Next.value (← Instr.fieldAt 29 x4 0))) fun x5 => HK Tryd.prog S (do pure (Next.value (← Instr.loadAt 4 x5))) fun x6 => HK Tryd.prog S (nilCk (ρ 0)) fun x9 => HK Tryd.prog S (do pure (Next.value (← Instr.fieldAt 29 x9 1))) fun x10 => HK Tryd.prog S (do pure (Next.value (← Instr.loadAt 27 x10))) fun x11 => VK Tryd.prog (Instr.buildSlice 27 0 [].toArray) w fun x7 w => S w ∧ (IK Tryd.prog Builtin.append #[27, 27] 27 [false, false] [x7, x11] w fun x12 w => S w ∧ (HK Tryd.prog S (do pure (Next.value (← Instr.build 29 [(0, x6), (1, x12)].toArray))) fun x13 => VK Tryd.prog (Instr.box 29 x13) w fun x14 w => S w ∧ (K (up (up (up (up (up (up (up (up (up (up (up (up ρ 3 (ρ 0)) 4 x4) 5 x5) 6 x6) 8 (ρ 0)) 9 x9) 10 x10) 11 x11) 7 x7) 12 x12) 13 x13) 14 x14) w)))
theorem dispatcherref15_Coll_Copy_R0_q0 (S : World → Prop) (K : Sl → World → Prop) : sxh Tryd.prog S dispatcherref15_Coll_Copy_R0_ops K [(0, true), (1, true), (2, true), (3, true), (5, true), (6, true), (7, true), (8, true), (4, false), (9, false), (10, true), (11, false)] = dispatcherref15_Coll_Copy_R0_H0 S K := by kernel_rfl
def dispatcherref15_Coll_Copy_R0_H1 (S : World → Prop) (K : Sl → World → Prop) (ρ : Sl) (w : World) : Prop :=
  K (up ρ 2 (ρ 14)) w
theorem dispatcherref15_Coll_Copy_R0_q1 (S : World → Prop) (K : Sl → World → Prop) : sxh Tryd.prog S dispatcherref15_Coll_Copy_R0_ops K [(12, true)] = dispatcherref15_Coll_Copy_R0_H1 S K := by kernel_rfl
def dispatcherref15_Coll_Copy_R0_H (S : World → Prop) (K : Exit → Sl → World → Prop) (ρ : Sl) (w : World) : Prop :=
  dispatcherref15_Coll_Copy_R0_H0 S (dispatcherref15_Coll_Copy_R0_H1 S (K .normal)) ρ w
theorem dispatcherref15_Coll_Copy_R0_steps : planOk Tryd.prog 15 dispatcherref15_Coll_Copy_R0_ops [(0, true), (1, true), (2, true), (3, true), (5, true), (6, true), (7, true), (8, true), (4, false), (9, false), (10, true), (11, false), (12, true)] (Array.replicate dispatcherref15_Coll_Copy_R0_ops.size false) = true :=
  by kernel_rfl
theorem dispatcherref15_Coll_Copy_R0_held {D : List Deferred} (S : World → Prop) {K : Exit → Sl → World → Prop} {ρ : Sl} {w : World} (hS : S { w with drawn := w.drawn + 1 }) (h : dispatcherref15_Coll_Copy_R0_H S K ρ { w with drawn := w.drawn + 1 }) : W ⟨none, D⟩ Tryd.prog 15 dispatcherref15_Coll_Copy_R0 K ρ w := by
  have e : dispatcherref15_Coll_Copy_R0 = .region (idOf dispatcherref15_Coll_Copy_R0) dispatcherref15_Coll_Copy_R0_ops true := by kernel_rfl
  have q : sxh Tryd.prog S dispatcherref15_Coll_Copy_R0_ops (K .normal) [(0, true), (1, true), (2, true), (3, true), (5, true), (6, true), (7, true), (8, true), (4, false), (9, false), (10, true), (11, false), (12, true)] ρ { w with drawn := w.drawn + 1 } = dispatcherref15_Coll_Copy_R0_H S K ρ { w with drawn := w.drawn + 1 } := by
    show sxh Tryd.prog S dispatcherref15_Coll_Copy_R0_ops (K .normal) ([(0, true), (1, true), (2, true), (3, true), (5, true), (6, true), (7, true), (8, true), (4, false), (9, false), (10, true), (11, false)] ++ [(12, true)]) ρ { w with drawn := w.drawn + 1 } = _
    rw [sxh_append, dispatcherref15_Coll_Copy_R0_q1, dispatcherref15_Coll_Copy_R0_q0]; rfl
  rw [e]
  exact W_held S [(0, true), (1, true), (2, true), (3, true), (5, true), (6, true), (7, true), (8, true), (4, false), (9, false), (10, true), (11, false), (12, true)] (by kernel_rfl) (by kernel_rfl) dispatcherref15_Coll_Copy_R0_steps (by kernel_rfl) hS (Eq.mpr q h)
noncomputable def dispatcherref15_Coll_Copy_R1_F (z : At) (K : Exit → Sl → World → Prop) (ρ : Sl) (w : World) : Prop :=
  K .ret ρ w
theorem dispatcherref15_Coll_Copy_R1_eq (z : At) (K : Exit → Sl → World → Prop) (ρ : Sl) (w : World) : sx z Tryd.prog 15 dispatcherref15_Coll_Copy_R1 K ρ w = dispatcherref15_Coll_Copy_R1_F z K ρ w := by kernel_rfl
noncomputable def dispatcherref15_Coll_Copy_F (a0 : Value) (w : World) (R : Value → World → Prop) : Prop :=
  W fn_ Tryd.prog 15 dispatcherref15_Coll_Copy_R0 (seqK (sx fn_ Tryd.prog 15 dispatcherref15_Coll_Copy_R1 (retK Tryd.prog [ResultVar.tmp 2] R)) (retK Tryd.prog [ResultVar.tmp 2] R)) (up (rho0 [a0]) 2 (Value.pointer none)) w
theorem dispatcherref15_Coll_Copy_eq (a0 : Value) (w : World) (R : Value → World → Prop) : sx fn_ Tryd.prog 15 dispatcherref15_Coll_Copy_b (retK Tryd.prog Tryd.f16.results.toList R) (rho0 [a0]) w = dispatcherref15_Coll_Copy_F a0 w R := by kernel_rfl
theorem dispatcherref15_Coll_Copy_calls {a0 : Value} {w : World} {R : Value → World → Prop} (h : dispatcherref15_Coll_Copy_F a0 w R) : Calls Tryd.prog 16 #[a0] w fun e w' => ∃ v, e = .returned v ∧ R v w' :=
  Go.X.calls_of_sx (n := 15) (c := dispatcherref15_Coll_Copy_b) Tryd.func16 (by kernel_rfl) (by kernel_rfl) (Nat.le_of_ble_eq_true rfl) (by kernel_rfl) (Eq.mpr (dispatcherref15_Coll_Copy_eq a0 w R) h)
noncomputable def dispatcherref15_Coll_Many_b : Code := (Tryd.f18.body).getD .skip
noncomputable def dispatcherref15_Coll_Many_L0 : Code := cAt [1, 1, 0, 1, 0, 0] dispatcherref15_Coll_Many_b
noncomputable def dispatcherref15_Coll_Many_R1 : Code := cAt [1, 1, 1] dispatcherref15_Coll_Many_b
noncomputable def dispatcherref15_Coll_Many_R2 : Code := cAt [1, 1, 0, 1, 0, 0, 1, 1] dispatcherref15_Coll_Many_b
noncomputable def dispatcherref15_Coll_Many_R3 : Code := cAt [1, 1, 0, 1, 0, 0, 1, 0, 0, 1] dispatcherref15_Coll_Many_b
noncomputable def dispatcherref15_Coll_Many_L0_F (z : At) (K : Exit → Sl → World → Prop) (ρ : Sl) (w : World) : Prop :=
  NK Tryd.prog (ρ 0) w fun x11 w => VK Tryd.prog (Instr.fieldAt 29 x11 1) w fun x12 w => VK Tryd.prog (Instr.loadAt 27 x12) w fun x13 w => IK Tryd.prog .len #[27] 3 [false] [x13] w fun x14 w => BK Tryd.prog .lss 3 (.tmp 9) (.tmp 14) (ρ 8) x14 w fun x15 w => CondK x15 (NK Tryd.prog (ρ 0) w fun x19 w => VK Tryd.prog (Instr.fieldAt 29 x19 1) w fun x20 w => VK Tryd.prog (Instr.loadAt 27 x20) w fun x21 w => VK Tryd.prog (Instr.indexAt 27 x21 (ρ 8)) w fun x23 w => VK Tryd.prog (Instr.fieldAt 88 x23 0) w fun x24 w => VK Tryd.prog (Instr.fieldAt 32 x24 0) w fun x25 w => VK Tryd.prog (Instr.loadAt 9 x25) w fun x26 w => BK Tryd.prog .eql 9 (.tmp 26) (.tmp 27) x26 (ρ 1) w fun x28 w => MG Tryd.prog x28 true (ρ 0) w fun x30 w => NG Tryd.prog x28 true x30 w fun x31 w => VG Tryd.prog x28 true (Instr.fieldAt 29 x31 1) w fun x32 w => VG Tryd.prog x28 true (Instr.loadAt 27 x32) w fun x33 w => MG Tryd.prog x28 true (ρ 8) w fun x34 w => VG Tryd.prog x28 true (Instr.indexAt 27 x33 x34) w fun x35 w => VG Tryd.prog x28 true (Instr.fieldAt 88 x35 1) w fun x36 w => VG Tryd.prog x28 true (Instr.loadAt 3 x36) w fun x37 w => MG Tryd.prog x28 true (ρ 2) w fun x38 w => BG Tryd.prog x28 true .eql 3 (.tmp 37) (.tmp 38) x37 x38 w fun x39 w => PK Tryd.prog x28 x39 (Value.bool false) w fun x40 w => sx z Tryd.prog 44 dispatcherref15_Coll_Many_R3 (blkK 1 (seqK (sx z Tryd.prog 44 dispatcherref15_Coll_Many_R2 K) K)) (up (up (up (up (up (up (up (up (up (up (up (up (up (up (up (up (up (up (up (up (up (up (up (up (up (up (up (up (up (up ρ 9 (ρ 8)) 10 (ρ 0)) 11 x11) 12 x12) 13 x13) 14 x14) 15 x15) 18 (ρ 0)) 19 x19) 20 x20) 21 x21) 22 (ρ 8)) 23 x23) 24 x24) 25 x25) 26 x26) 27 (ρ 1)) 28 x28) 29 x28) 30 x30) 31 x31) 32 x32) 33 x33) 34 x34) 35 x35) 36 x36) 37 x37) 38 x38) 39 x39) 40 x40) w) (K (.exit 0) (up (up (up (up (up (up (up ρ 9 (ρ 8)) 10 (ρ 0)) 11 x11) 12 x12) 13 x13) 14 x14) 15 x15) w)
theorem dispatcherref15_Coll_Many_L0_eq (z : At) (K : Exit → Sl → World → Prop) (ρ : Sl) (w : World) : sx z Tryd.prog 44 dispatcherref15_Coll_Many_L0 K ρ w = dispatcherref15_Coll_Many_L0_F z K ρ w := by kernel_rfl
theorem dispatcherref15_Coll_Many_L0_ok : dstOk 44 dispatcherref15_Coll_Many_L0 = true := by kernel_rfl
noncomputable def dispatcherref15_Coll_Many_R1_F (z : At) (K : Exit → Sl → World → Prop) (ρ : Sl) (w : World) : Prop :=
  K .ret (up (up ρ 43 (ρ 7)) 6 (ρ 7)) w
theorem dispatcherref15_Coll_Many_R1_eq (z : At) (K : Exit → Sl → World → Prop) (ρ : Sl) (w : World) : sx z Tryd.prog 44 dispatcherref15_Coll_Many_R1 K ρ w = dispatcherref15_Coll_Many_R1_F z K ρ w := by kernel_rfl
noncomputable def dispatcherref15_Coll_Many_R2_F (z : At) (K : Exit → Sl → World → Prop) (ρ : Sl) (w : World) : Prop :=
  BK Tryd.prog .add 3 (.tmp 16) (.const (Value.int .i64 1)) (ρ 8) (Value.int .i64 1) w fun x17 w => K .normal (up (up (up ρ 16 (ρ 8)) 17 x17) 8 x17) w
theorem dispatcherref15_Coll_Many_R2_eq (z : At) (K : Exit → Sl → World → Prop) (ρ : Sl) (w : World) : sx z Tryd.prog 44 dispatcherref15_Coll_Many_R2 K ρ w = dispatcherref15_Coll_Many_R2_F z K ρ w := by kernel_rfl
noncomputable def dispatcherref15_Coll_Many_R3_F (z : At) (K : Exit → Sl → World → Prop) (ρ : Sl) (w : World) : Prop :=
  CondK (ρ 40) (BK Tryd.prog .add 3 (.tmp 41) (.const (Value.int .i64 1)) (ρ 7) (Value.int .i64 1) w fun x42 w => K .normal (up (up (up ρ 41 (ρ 7)) 42 x42) 7 x42) w) (K .normal ρ w)
theorem dispatcherref15_Coll_Many_R3_eq (z : At) (K : Exit → Sl → World → Prop) (ρ : Sl) (w : World) : sx z Tryd.prog 44 dispatcherref15_Coll_Many_R3 K ρ w = dispatcherref15_Coll_Many_R3_F z K ρ w := by kernel_rfl
noncomputable def dispatcherref15_Coll_Many_F (a0 a1 a2 : Value) (w : World) (R : Value → World → Prop) : Prop :=
  W fn_ Tryd.prog 44 (Code.loop dispatcherref15_Coll_Many_L0) (blkK 0 (seqK (sx fn_ Tryd.prog 44 dispatcherref15_Coll_Many_R1 (retK Tryd.prog [ResultVar.tmp 6] R)) (retK Tryd.prog [ResultVar.tmp 6] R))) (up (up (up (rho0 [a0, a1, a2]) 6 (Value.int .i64 0)) 7 (Value.int .i64 0)) 8 (Value.int .i64 0)) w
theorem dispatcherref15_Coll_Many_eq (a0 a1 a2 : Value) (w : World) (R : Value → World → Prop) : sx fn_ Tryd.prog 44 dispatcherref15_Coll_Many_b (retK Tryd.prog Tryd.f18.results.toList R) (rho0 [a0, a1, a2]) w = dispatcherref15_Coll_Many_F a0 a1 a2 w R := by kernel_rfl
theorem dispatcherref15_Coll_Many_calls {a0 a1 a2 : Value} {w : World} {R : Value → World → Prop} (h : dispatcherref15_Coll_Many_F a0 a1 a2 w R) : Calls Tryd.prog 18 #[a0, a1, a2] w fun e w' => ∃ v, e = .returned v ∧ R v w' :=
  Go.X.calls_of_sx (n := 44) (c := dispatcherref15_Coll_Many_b) Tryd.func18 (by kernel_rfl) (by kernel_rfl) (Nat.le_of_ble_eq_true rfl) (by kernel_rfl) (Eq.mpr (dispatcherref15_Coll_Many_eq a0 a1 a2 w R) h)
noncomputable def dispatcherref15_May_b : Code := (Tryd.f20.body).getD .skip
noncomputable def dispatcherref15_May_R0 : Code := cAt [1, 0, 1] dispatcherref15_May_b
noncomputable def dispatcherref15_May_R1 : Code := cAt [1, 1] dispatcherref15_May_b
noncomputable def dispatcherref15_May_R0_F (z : At) (K : Exit → Sl → World → Prop) (ρ : Sl) (w : World) : Prop :=
  CondK (ρ 32) (K .ret (up ρ 4 (Value.bool false)) w) (K .normal ρ w)
theorem dispatcherref15_May_R0_eq (z : At) (K : Exit → Sl → World → Prop) (ρ : Sl) (w : World) : sx z Tryd.prog 68 dispatcherref15_May_R0 K ρ w = dispatcherref15_May_R0_F z K ρ w := by kernel_rfl
noncomputable def dispatcherref15_May_R1_F (z : At) (K : Exit → Sl → World → Prop) (ρ : Sl) (w : World) : Prop :=
  VK Tryd.prog (Instr.fieldAt 34 (ρ 3) 0) w fun x33 w => VK Tryd.prog (Instr.loadAt 5 x33) w fun x34 w => BK Tryd.prog .eql 5 (.tmp 34) (.const (Value.int .u8 16)) x34 (Value.int .u8 16) w fun x35 w => VG Tryd.prog x35 false (Instr.fieldAt 34 (ρ 3) 0) w fun x37 w => VG Tryd.prog x35 false (Instr.loadAt 5 x37) w fun x38 w => BG Tryd.prog x35 false .eql 5 (.tmp 38) (.const (Value.int .u8 17)) x38 (Value.int .u8 17) w fun x39 w => PK Tryd.prog x35 (Value.bool true) x39 w fun x40 w => VG Tryd.prog x40 false (Instr.fieldAt 34 (ρ 3) 0) w fun x42 w => VG Tryd.prog x40 false (Instr.loadAt 5 x42) w fun x43 w => BG Tryd.prog x40 false .eql 5 (.tmp 43) (.const (Value.int .u8 19)) x43 (Value.int .u8 19) w fun x44 w => PK Tryd.prog x40 (Value.bool true) x44 w fun x45 w => VK Tryd.prog (Instr.fieldAt 34 (ρ 3) 0) w fun x46 w => VK Tryd.prog (Instr.loadAt 5 x46) w fun x47 w => BK Tryd.prog .eql 5 (.tmp 47) (.const (Value.int .u8 17)) x47 (Value.int .u8 17) w fun x48 w => VG Tryd.prog x48 false (Instr.fieldAt 34 (ρ 3) 0) w fun x50 w => VG Tryd.prog x48 false (Instr.loadAt 5 x50) w fun x51 w => BG Tryd.prog x48 false .eql 5 (.tmp 51) (.const (Value.int .u8 18)) x51 (Value.int .u8 18) w fun x52 w => PK Tryd.prog x48 (Value.bool true) x52 w fun x53 w => VG Tryd.prog x45 false (Instr.fieldAt 34 (ρ 3) 1) w fun x56 w => VG Tryd.prog x45 false (Instr.loadAt 3 x56) w fun x57 w => BG Tryd.prog x45 false .eql 3 (.tmp 57) (.const (Value.int .i64 0)) x57 (Value.int .i64 0) w fun x58 w => PK Tryd.prog x45 (Value.bool true) x58 w fun x59 w => MG Tryd.prog x59 true x53 w fun x61 w => MG Tryd.prog x59 true x61 w fun x62 w => VG Tryd.prog x62 false (Instr.fieldAt 34 (ρ 3) 2) w fun x63 w => VG Tryd.prog x62 false (Instr.loadAt 5 x63) w fun x64 w => BG Tryd.prog x62 false .eql 5 (.tmp 64) (.const (Value.int .u8 0)) x64 (Value.int .u8 0) w fun x65 w => PG Tryd.prog x59 true x62 (Value.bool true) x65 w fun x66 w => PK Tryd.prog x59 x66 (Value.bool false) w fun x67 w => K .ret (up (up (up (up (up (up (up (up (up (up (up (up (up (up (up (up (up (up (up (up (up (up (up (up (up (up (up (up (up (up (up (up (up (up (up (up (up (up ρ 33 x33) 34 x34) 35 x35) 36 x35) 37 x37) 38 x38) 39 x39) 40 x40) 41 x40) 42 x42) 43 x43) 44 x44) 45 x45) 5 x45) 46 x46) 47 x47) 48 x48) 49 x48) 50 x50) 51 x51) 52 x52) 53 x53) 6 x53) 54 x45) 55 x45) 56 x56) 57 x57) 58 x58) 59 x59) 60 x59) 61 x61) 62 x62) 63 x63) 64 x64) 65 x65) 66 x66) 67 x67) 4 x67) w
theorem dispatcherref15_May_R1_eq (z : At) (K : Exit → Sl → World → Prop) (ρ : Sl) (w : World) : sx z Tryd.prog 68 dispatcherref15_May_R1 K ρ w = dispatcherref15_May_R1_F z K ρ w := by kernel_rfl
noncomputable def dispatcherref15_May_F (a0 a1 : Value) (w : World) (R : Value → World → Prop) : Prop :=
  VK Tryd.prog (Instr.box 32 a0) w fun x2 w => VK Tryd.prog (Instr.box 34 a1) w fun x3 w => VK Tryd.prog (Instr.fieldAt 34 x3 0) w fun x7 w => VK Tryd.prog (Instr.loadAt 5 x7) w fun x8 w => BK Tryd.prog .lss 5 (.tmp 8) (.const (Value.int .u8 15)) x8 (Value.int .u8 15) w fun x9 w => VG Tryd.prog x9 false (Instr.fieldAt 34 x3 0) w fun x11 w => VG Tryd.prog x9 false (Instr.loadAt 5 x11) w fun x12 w => BG Tryd.prog x9 false .gtr 5 (.tmp 12) (.const (Value.int .u8 21)) x12 (Value.int .u8 21) w fun x13 w => PK Tryd.prog x9 (Value.bool true) x13 w fun x14 w => VG Tryd.prog x14 false (Instr.fieldAt 34 x3 2) w fun x16 w => VG Tryd.prog x14 false (Instr.loadAt 5 x16) w fun x17 w => BG Tryd.prog x14 false .gtr 5 (.tmp 17) (.const (Value.int .u8 2)) x17 (Value.int .u8 2) w fun x18 w => PK Tryd.prog x14 (Value.bool true) x18 w fun x19 w => VG Tryd.prog x19 false (Instr.fieldAt 34 x3 1) w fun x21 w => VG Tryd.prog x19 false (Instr.loadAt 3 x21) w fun x22 w => BG Tryd.prog x19 false .lss 3 (.tmp 22) (.const (Value.int .i64 0)) x22 (Value.int .i64 0) w fun x23 w => PK Tryd.prog x19 (Value.bool true) x23 w fun x24 w => VG Tryd.prog x24 false (Instr.fieldAt 34 x3 1) w fun x26 w => VG Tryd.prog x24 false (Instr.loadAt 3 x26) w fun x27 w => VG Tryd.prog x24 false (Instr.fieldAt 32 x2 1) w fun x28 w => VG Tryd.prog x24 false (Instr.loadAt 30 x28) w fun x29 w => IG Tryd.prog x24 false .len #[30] 3 [false] [x29] w fun x30 w => BG Tryd.prog x24 false .geq 3 (.tmp 27) (.tmp 30) x27 x30 w fun x31 w => PK Tryd.prog x24 (Value.bool true) x31 w fun x32 w => sx fn_ Tryd.prog 68 dispatcherref15_May_R0 (seqK (sx fn_ Tryd.prog 68 dispatcherref15_May_R1 (retK Tryd.prog [ResultVar.tmp 4] R)) (retK Tryd.prog [ResultVar.tmp 4] R)) (up (up (up (up (up (up (up (up (up (up (up (up (up (up (up (up (up (up (up (up (up (up (up (up (up (up (up (up (up (rho0 [a0, a1]) 2 x2) 3 x3) 4 (Value.bool false)) 7 x7) 8 x8) 9 x9) 10 x9) 11 x11) 12 x12) 13 x13) 14 x14) 15 x14) 16 x16) 17 x17) 18 x18) 19 x19) 20 x19) 21 x21) 22 x22) 23 x23) 24 x24) 25 x24) 26 x26) 27 x27) 28 x28) 29 x29) 30 x30) 31 x31) 32 x32) w
theorem dispatcherref15_May_eq (a0 a1 : Value) (w : World) (R : Value → World → Prop) : sx fn_ Tryd.prog 68 dispatcherref15_May_b (retK Tryd.prog Tryd.f20.results.toList R) (rho0 [a0, a1]) w = dispatcherref15_May_F a0 a1 w R := by kernel_rfl
theorem dispatcherref15_May_calls {a0 a1 : Value} {w : World} {R : Value → World → Prop} (h : dispatcherref15_May_F a0 a1 w R) : Calls Tryd.prog 20 #[a0, a1] w fun e w' => ∃ v, e = .returned v ∧ R v w' :=
  Go.X.calls_of_sx (n := 68) (c := dispatcherref15_May_b) Tryd.func20 (by kernel_rfl) (by kernel_rfl) (Nat.le_of_ble_eq_true rfl) (by kernel_rfl) (Eq.mpr (dispatcherref15_May_eq a0 a1 w R) h)
noncomputable def dispatcherref15_Fit_b : Code := (Tryd.f22.body).getD .skip
noncomputable def dispatcherref15_Fit_F (a0 a1 : Value) (w : World) (R : Value → World → Prop) : Prop :=
  VK Tryd.prog (Instr.box 34 a0) w fun x2 w => VK Tryd.prog (Instr.box 34 a1) w fun x3 w => VK Tryd.prog (Instr.fieldAt 34 x2 0) w fun x5 w => VK Tryd.prog (Instr.loadAt 5 x5) w fun x6 w => VK Tryd.prog (Instr.fieldAt 34 x3 0) w fun x7 w => VK Tryd.prog (Instr.loadAt 5 x7) w fun x8 w => BK Tryd.prog .eql 5 (.tmp 6) (.tmp 8) x6 x8 w fun x9 w => VG Tryd.prog x9 true (Instr.fieldAt 34 x2 1) w fun x11 w => VG Tryd.prog x9 true (Instr.loadAt 3 x11) w fun x12 w => VG Tryd.prog x9 true (Instr.fieldAt 34 x3 1) w fun x13 w => VG Tryd.prog x9 true (Instr.loadAt 3 x13) w fun x14 w => BG Tryd.prog x9 true .eql 3 (.tmp 12) (.tmp 14) x12 x14 w fun x15 w => PK Tryd.prog x9 x15 (Value.bool false) w fun x16 w => VG Tryd.prog x16 true (Instr.fieldAt 34 x2 2) w fun x18 w => VG Tryd.prog x16 true (Instr.loadAt 5 x18) w fun x19 w => VG Tryd.prog x16 true (Instr.fieldAt 34 x3 2) w fun x20 w => VG Tryd.prog x16 true (Instr.loadAt 5 x20) w fun x21 w => BG Tryd.prog x16 true .eql 5 (.tmp 19) (.tmp 21) x19 x21 w fun x22 w => PK Tryd.prog x16 x22 (Value.bool false) w fun x23 w => R x23 w
theorem dispatcherref15_Fit_eq (a0 a1 : Value) (w : World) (R : Value → World → Prop) : sx fn_ Tryd.prog 24 dispatcherref15_Fit_b (retK Tryd.prog Tryd.f22.results.toList R) (rho0 [a0, a1]) w = dispatcherref15_Fit_F a0 a1 w R := by kernel_rfl
theorem dispatcherref15_Fit_calls {a0 a1 : Value} {w : World} {R : Value → World → Prop} (h : dispatcherref15_Fit_F a0 a1 w R) : Calls Tryd.prog 22 #[a0, a1] w fun e w' => ∃ v, e = .returned v ∧ R v w' :=
  Go.X.calls_of_sx (n := 24) (c := dispatcherref15_Fit_b) Tryd.func22 (by kernel_rfl) (by kernel_rfl) (Nat.le_of_ble_eq_true rfl) (by kernel_rfl) (Eq.mpr (dispatcherref15_Fit_eq a0 a1 w R) h)
noncomputable def dispatcherlaw15_texts_b : Code := (Tryd.f23.body).getD .skip
noncomputable def dispatcherlaw15_texts_L0 : Code := cAt [1, 1, 0, 1, 0, 0] dispatcherlaw15_texts_b
noncomputable def dispatcherlaw15_texts_R1 : Code := cAt [1, 1, 1] dispatcherlaw15_texts_b
noncomputable def dispatcherlaw15_texts_R2 : Code := cAt [1, 1, 0, 1, 0, 0, 1, 0, 0, 0] dispatcherlaw15_texts_b
noncomputable def dispatcherlaw15_texts_R3 : Code := cAt [1, 1, 0, 1, 0, 0, 1, 0, 0, 1] dispatcherlaw15_texts_b
noncomputable def dispatcherlaw15_texts_R4 : Code := cAt [1, 1, 0, 1, 0, 0, 1, 1] dispatcherlaw15_texts_b
noncomputable def dispatcherlaw15_texts_L0_F (z : At) (K : Exit → Sl → World → Prop) (ρ : Sl) (w : World) : Prop :=
  IK Tryd.prog .len #[50] 3 [false] [(ρ 0)] w fun x13 w => BK Tryd.prog .lss 3 (.tmp 11) (.tmp 13) (ρ 5) x13 w fun x14 w => CondK x14 (W z Tryd.prog 26 dispatcherlaw15_texts_R2 (seqK (sx z Tryd.prog 26 dispatcherlaw15_texts_R3 (blkK 1 (seqK (sx z Tryd.prog 26 dispatcherlaw15_texts_R4 K) K))) (blkK 1 (seqK (sx z Tryd.prog 26 dispatcherlaw15_texts_R4 K) K))) (up (up (up (up ρ 11 (ρ 5)) 12 (ρ 0)) 13 x13) 14 x14) w) (K (.exit 0) (up (up (up (up ρ 11 (ρ 5)) 12 (ρ 0)) 13 x13) 14 x14) w)
theorem dispatcherlaw15_texts_L0_eq (z : At) (K : Exit → Sl → World → Prop) (ρ : Sl) (w : World) : sx z Tryd.prog 26 dispatcherlaw15_texts_L0 K ρ w = dispatcherlaw15_texts_L0_F z K ρ w := by kernel_rfl
theorem dispatcherlaw15_texts_L0_ok : dstOk 26 dispatcherlaw15_texts_L0 = true := by kernel_rfl
noncomputable def dispatcherlaw15_texts_R1_F (z : At) (K : Exit → Sl → World → Prop) (ρ : Sl) (w : World) : Prop :=
  K .ret (up ρ 4 (Value.bool true)) w
theorem dispatcherlaw15_texts_R1_eq (z : At) (K : Exit → Sl → World → Prop) (ρ : Sl) (w : World) : sx z Tryd.prog 26 dispatcherlaw15_texts_R1 K ρ w = dispatcherlaw15_texts_R1_F z K ρ w := by kernel_rfl
noncomputable def dispatcherlaw15_texts_R2_ops : Array Oper := opsOf dispatcherlaw15_texts_R2
def dispatcherlaw15_texts_R2_Q (C : World → Prop) (K : Exit → Sl → World → Prop) (ρ : Sl) : Prop :=
  QK Tryd.prog C (do pure (Next.value (← Instr.indexAt 50 (ρ 0) (ρ 5)))) fun x19 => QK Tryd.prog C (do pure (Next.value (← Instr.loadAt 9 x19))) fun x20 => QK Tryd.prog C (do pure (Next.value (← Instr.indexAt 50 (ρ 1) (ρ 5)))) fun x23 => QK Tryd.prog C (do pure (Next.value (← Instr.loadAt 9 x23))) fun x24 => QK Tryd.prog C (do pure (Next.value (← (do eqGuard BinOp.neq 9 (Operand.tmp 20) (Operand.tmp 24) x20 x24; binOp BinOp.neq 9 x20 x24)))) fun x25 => ∀ w', C w' → K Exit.normal (up (up (up (up (up (up (up (up (up ρ 17 (ρ 0)) 18 (ρ 5)) 19 x19) 20 x20) 21 (ρ 1)) 22 (ρ 5)) 23 x23) 24 x24) 25 x25) w'
theorem dispatcherlaw15_texts_R2_quiet {D : List Deferred} (C : World → Prop) {K : Exit → Sl → World → Prop} {ρ : Sl} {w : World} (hC : C { w with drawn := w.drawn + 1 }) (h : dispatcherlaw15_texts_R2_Q C K ρ) : W ⟨none, D⟩ Tryd.prog 26 dispatcherlaw15_texts_R2 K ρ w := by
  have e : dispatcherlaw15_texts_R2 = .region (idOf dispatcherlaw15_texts_R2) dispatcherlaw15_texts_R2_ops true := by kernel_rfl
  have q : sxq Tryd.prog C dispatcherlaw15_texts_R2_ops (fun ρ' => ∀ w', C w' → K .normal ρ' w') dispatcherlaw15_texts_R2_ops.toList ρ = dispatcherlaw15_texts_R2_Q C K ρ := by kernel_rfl
  rw [e]
  exact W_quiet C (by kernel_rfl) (by kernel_rfl) (by kernel_rfl) hC (Eq.mpr q h)
noncomputable def dispatcherlaw15_texts_R3_F (z : At) (K : Exit → Sl → World → Prop) (ρ : Sl) (w : World) : Prop :=
  CondK (ρ 25) (K .ret (up ρ 4 (Value.bool false)) w) (K .normal ρ w)
theorem dispatcherlaw15_texts_R3_eq (z : At) (K : Exit → Sl → World → Prop) (ρ : Sl) (w : World) : sx z Tryd.prog 26 dispatcherlaw15_texts_R3 K ρ w = dispatcherlaw15_texts_R3_F z K ρ w := by kernel_rfl
noncomputable def dispatcherlaw15_texts_R4_F (z : At) (K : Exit → Sl → World → Prop) (ρ : Sl) (w : World) : Prop :=
  BK Tryd.prog .add 3 (.tmp 15) (.const (Value.int .i64 1)) (ρ 5) (Value.int .i64 1) w fun x16 w => K .normal (up (up (up ρ 15 (ρ 5)) 16 x16) 5 x16) w
theorem dispatcherlaw15_texts_R4_eq (z : At) (K : Exit → Sl → World → Prop) (ρ : Sl) (w : World) : sx z Tryd.prog 26 dispatcherlaw15_texts_R4 K ρ w = dispatcherlaw15_texts_R4_F z K ρ w := by kernel_rfl
noncomputable def dispatcherlaw15_texts_F (a0 a1 : Value) (w : World) (R : Value → World → Prop) : Prop :=
  IK Tryd.prog .len #[50] 3 [false] [a0] w fun x7 w => IK Tryd.prog .len #[50] 3 [false] [a1] w fun x9 w => BK Tryd.prog .neq 3 (.tmp 7) (.tmp 9) x7 x9 w fun x10 w => CondK x10 (R (Value.bool false) w) (W fn_ Tryd.prog 26 (Code.loop dispatcherlaw15_texts_L0) (blkK 0 (seqK (sx fn_ Tryd.prog 26 dispatcherlaw15_texts_R1 (retK Tryd.prog [ResultVar.tmp 4] R)) (retK Tryd.prog [ResultVar.tmp 4] R))) (up (up (up (up (up (up (up (rho0 [a0, a1]) 4 (Value.bool false)) 6 a0) 7 x7) 8 a1) 9 x9) 10 x10) 5 (Value.int .i64 0)) w)
theorem dispatcherlaw15_texts_eq (a0 a1 : Value) (w : World) (R : Value → World → Prop) : sx fn_ Tryd.prog 26 dispatcherlaw15_texts_b (retK Tryd.prog Tryd.f23.results.toList R) (rho0 [a0, a1]) w = dispatcherlaw15_texts_F a0 a1 w R := by kernel_rfl
theorem dispatcherlaw15_texts_calls {a0 a1 : Value} {w : World} {R : Value → World → Prop} (h : dispatcherlaw15_texts_F a0 a1 w R) : Calls Tryd.prog 23 #[a0, a1] w fun e w' => ∃ v, e = .returned v ∧ R v w' :=
  Go.X.calls_of_sx (n := 26) (c := dispatcherlaw15_texts_b) Tryd.func23 (by kernel_rfl) (by kernel_rfl) (Nat.le_of_ble_eq_true rfl) (by kernel_rfl) (Eq.mpr (dispatcherlaw15_texts_eq a0 a1 w R) h)
noncomputable def dispatcherref15_Coll_Odd_b : Code := (Tryd.f25.body).getD .skip
noncomputable def dispatcherref15_Coll_Odd_L0 : Code := cAt [1, 1, 0, 1, 0, 0] dispatcherref15_Coll_Odd_b
noncomputable def dispatcherref15_Coll_Odd_R1 : Code := cAt [1, 1, 1] dispatcherref15_Coll_Odd_b
noncomputable def dispatcherref15_Coll_Odd_R2 : Code := cAt [1, 1, 0, 1, 0, 0, 1, 1] dispatcherref15_Coll_Odd_b
noncomputable def dispatcherref15_Coll_Odd_L3 : Code := cAt [1, 1, 0, 1, 0, 0, 1, 0, 0, 1, 0, 0, 0] dispatcherref15_Coll_Odd_b
noncomputable def dispatcherref15_Coll_Odd_R4 : Code := cAt [1, 1, 0, 1, 0, 0, 1, 0, 0, 1, 1] dispatcherref15_Coll_Odd_b
noncomputable def dispatcherref15_Coll_Odd_L5 : Code := cAt [1, 1, 1, 1, 0, 1, 0, 0] dispatcherref15_Coll_Odd_b
noncomputable def dispatcherref15_Coll_Odd_R6 : Code := cAt [1, 1, 1, 1, 1] dispatcherref15_Coll_Odd_b
noncomputable def dispatcherref15_Coll_Odd_R7 : Code := cAt [1, 1, 0, 1, 0, 0, 1, 0, 0, 1, 0, 0, 0, 0, 0] dispatcherref15_Coll_Odd_b
noncomputable def dispatcherref15_Coll_Odd_R8 : Code := cAt [1, 1, 0, 1, 0, 0, 1, 0, 0, 1, 0, 0, 0, 0, 1] dispatcherref15_Coll_Odd_b
noncomputable def dispatcherref15_Coll_Odd_R9 : Code := cAt [1, 1, 0, 1, 0, 0, 1, 0, 0, 1, 0, 0, 0, 1] dispatcherref15_Coll_Odd_b
noncomputable def dispatcherref15_Coll_Odd_R10 : Code := cAt [1, 1, 0, 1, 0, 0, 1, 0, 0, 1, 1, 0, 0] dispatcherref15_Coll_Odd_b
noncomputable def dispatcherref15_Coll_Odd_R11 : Code := cAt [1, 1, 0, 1, 0, 0, 1, 0, 0, 1, 1, 0, 1] dispatcherref15_Coll_Odd_b
noncomputable def dispatcherref15_Coll_Odd_R12 : Code := cAt [1, 1, 0, 1, 0, 0, 1, 0, 0, 1, 1, 1] dispatcherref15_Coll_Odd_b
noncomputable def dispatcherref15_Coll_Odd_L13 : Code := cAt [1, 1, 1, 1, 0, 1, 0, 0, 1, 0, 0, 1, 0, 0] dispatcherref15_Coll_Odd_b
noncomputable def dispatcherref15_Coll_Odd_R14 : Code := cAt [1, 1, 1, 1, 0, 1, 0, 0, 1, 1] dispatcherref15_Coll_Odd_b
noncomputable def dispatcherref15_Coll_Odd_R15 : Code := cAt [1, 1, 0, 1, 0, 0, 1, 0, 0, 1, 1, 1, 1] dispatcherref15_Coll_Odd_b
noncomputable def dispatcherref15_Coll_Odd_R16 : Code := cAt [1, 1, 1, 1, 0, 1, 0, 0, 1, 0, 0, 1, 0, 0, 1, 1] dispatcherref15_Coll_Odd_b
noncomputable def dispatcherref15_Coll_Odd_R17 : Code := cAt [1, 1, 1, 1, 0, 1, 0, 0, 1, 0, 0, 1, 0, 0, 1, 0, 0, 1, 0] dispatcherref15_Coll_Odd_b
noncomputable def dispatcherref15_Coll_Odd_L0_F (z : At) (K : Exit → Sl → World → Prop) (ρ : Sl) (w : World) : Prop :=
  NK Tryd.prog (ρ 0) w fun x12 w => VK Tryd.prog (Instr.fieldAt 29 x12 1) w fun x13 w => VK Tryd.prog (Instr.loadAt 27 x13) w fun x14 w => IK Tryd.prog .len #[27] 3 [false] [x14] w fun x15 w => BK Tryd.prog .lss 3 (.tmp 10) (.tmp 15) (ρ 4) x15 w fun x16 w => CondK x16 (W z Tryd.prog 116 (Code.loop dispatcherref15_Coll_Odd_L3) (blkK 2 (seqK (sx z Tryd.prog 116 dispatcherref15_Coll_Odd_R4 (blkK 1 (seqK (sx z Tryd.prog 116 dispatcherref15_Coll_Odd_R2 K) K))) (blkK 1 (seqK (sx z Tryd.prog 116 dispatcherref15_Coll_Odd_R2 K) K)))) (up (up (up (up (up (up (up (up ρ 10 (ρ 4)) 11 (ρ 0)) 12 x12) 13 x13) 14 x14) 15 x15) 16 x16) 5 (Value.int .i64 0)) w) (K (.exit 0) (up (up (up (up (up (up (up ρ 10 (ρ 4)) 11 (ρ 0)) 12 x12) 13 x13) 14 x14) 15 x15) 16 x16) w)
theorem dispatcherref15_Coll_Odd_L0_eq (z : At) (K : Exit → Sl → World → Prop) (ρ : Sl) (w : World) : sx z Tryd.prog 116 dispatcherref15_Coll_Odd_L0 K ρ w = dispatcherref15_Coll_Odd_L0_F z K ρ w := by kernel_rfl
theorem dispatcherref15_Coll_Odd_L0_ok : dstOk 116 dispatcherref15_Coll_Odd_L0 = true := by kernel_rfl
noncomputable def dispatcherref15_Coll_Odd_R1_F (z : At) (K : Exit → Sl → World → Prop) (ρ : Sl) (w : World) : Prop :=
  W z Tryd.prog 116 (Code.loop dispatcherref15_Coll_Odd_L5) (blkK 4 (seqK (sx z Tryd.prog 116 dispatcherref15_Coll_Odd_R6 K) K)) (up (up ρ 7 (Value.slice none 0 0)) 8 (Value.int .i64 0)) w
theorem dispatcherref15_Coll_Odd_R1_eq (z : At) (K : Exit → Sl → World → Prop) (ρ : Sl) (w : World) : sx z Tryd.prog 116 dispatcherref15_Coll_Odd_R1 K ρ w = dispatcherref15_Coll_Odd_R1_F z K ρ w := by kernel_rfl
noncomputable def dispatcherref15_Coll_Odd_R2_F (z : At) (K : Exit → Sl → World → Prop) (ρ : Sl) (w : World) : Prop :=
  BK Tryd.prog .add 3 (.tmp 17) (.const (Value.int .i64 1)) (ρ 4) (Value.int .i64 1) w fun x18 w => K .normal (up (up (up ρ 17 (ρ 4)) 18 x18) 4 x18) w
theorem dispatcherref15_Coll_Odd_R2_eq (z : At) (K : Exit → Sl → World → Prop) (ρ : Sl) (w : World) : sx z Tryd.prog 116 dispatcherref15_Coll_Odd_R2 K ρ w = dispatcherref15_Coll_Odd_R2_F z K ρ w := by kernel_rfl
noncomputable def dispatcherref15_Coll_Odd_L3_F (z : At) (K : Exit → Sl → World → Prop) (ρ : Sl) (w : World) : Prop :=
  W z Tryd.prog 116 dispatcherref15_Coll_Odd_R7 (seqK (sx z Tryd.prog 116 dispatcherref15_Coll_Odd_R8 (seqK (sx z Tryd.prog 116 dispatcherref15_Coll_Odd_R9 K) K)) (seqK (sx z Tryd.prog 116 dispatcherref15_Coll_Odd_R9 K) K)) ρ w
theorem dispatcherref15_Coll_Odd_L3_eq (z : At) (K : Exit → Sl → World → Prop) (ρ : Sl) (w : World) : sx z Tryd.prog 116 dispatcherref15_Coll_Odd_L3 K ρ w = dispatcherref15_Coll_Odd_L3_F z K ρ w := by kernel_rfl
theorem dispatcherref15_Coll_Odd_L3_ok : dstOk 116 dispatcherref15_Coll_Odd_L3 = true := by kernel_rfl
noncomputable def dispatcherref15_Coll_Odd_R4_F (z : At) (K : Exit → Sl → World → Prop) (ρ : Sl) (w : World) : Prop :=
  W z Tryd.prog 116 dispatcherref15_Coll_Odd_R10 (seqK (sx z Tryd.prog 116 dispatcherref15_Coll_Odd_R11 (seqK (sx z Tryd.prog 116 dispatcherref15_Coll_Odd_R12 K) K)) (seqK (sx z Tryd.prog 116 dispatcherref15_Coll_Odd_R12 K) K)) ρ w
theorem dispatcherref15_Coll_Odd_R4_eq (z : At) (K : Exit → Sl → World → Prop) (ρ : Sl) (w : World) : sx z Tryd.prog 116 dispatcherref15_Coll_Odd_R4 K ρ w = dispatcherref15_Coll_Odd_R4_F z K ρ w := by kernel_rfl
noncomputable def dispatcherref15_Coll_Odd_L5_F (z : At) (K : Exit → Sl → World → Prop) (ρ : Sl) (w : World) : Prop :=
  IK Tryd.prog .len #[50] 3 [false] [(ρ 3)] w fun x84 w => BK Tryd.prog .lss 3 (.tmp 82) (.tmp 84) (ρ 8) x84 w fun x85 w => CondK x85 (W z Tryd.prog 116 (Code.loop dispatcherref15_Coll_Odd_L13) (blkK 6 (blkK 5 (seqK (sx z Tryd.prog 116 dispatcherref15_Coll_Odd_R14 K) K))) (up (up (up (up (up ρ 82 (ρ 8)) 83 (ρ 3)) 84 x84) 85 x85) 9 (Value.int .i64 0)) w) (K (.exit 4) (up (up (up (up ρ 82 (ρ 8)) 83 (ρ 3)) 84 x84) 85 x85) w)
theorem dispatcherref15_Coll_Odd_L5_eq (z : At) (K : Exit → Sl → World → Prop) (ρ : Sl) (w : World) : sx z Tryd.prog 116 dispatcherref15_Coll_Odd_L5 K ρ w = dispatcherref15_Coll_Odd_L5_F z K ρ w := by kernel_rfl
theorem dispatcherref15_Coll_Odd_L5_ok : dstOk 116 dispatcherref15_Coll_Odd_L5 = true := by kernel_rfl
noncomputable def dispatcherref15_Coll_Odd_R6_F (z : At) (K : Exit → Sl → World → Prop) (ρ : Sl) (w : World) : Prop :=
  K .ret (up (up ρ 115 (ρ 7)) 2 (ρ 7)) w
theorem dispatcherref15_Coll_Odd_R6_eq (z : At) (K : Exit → Sl → World → Prop) (ρ : Sl) (w : World) : sx z Tryd.prog 116 dispatcherref15_Coll_Odd_R6 K ρ w = dispatcherref15_Coll_Odd_R6_F z K ρ w := by kernel_rfl
noncomputable def dispatcherref15_Coll_Odd_R7_ops : Array Oper := opsOf dispatcherref15_Coll_Odd_R7
def dispatcherref15_Coll_Odd_R7_Q (C : World → Prop) (K : Exit → Sl → World → Prop) (ρ : Sl) : Prop :=
  QK Tryd.prog C (builtin Builtin.len #[50] 3 [false].toArray [(ρ 3)].toArray) fun x21 => QK Tryd.prog C (do pure (Next.value (← (do eqGuard BinOp.lss 3 (Operand.tmp 19) (Operand.tmp 21) (ρ 5) x21; binOp BinOp.lss 3 (ρ 5) x21)))) fun x22 => QG Tryd.prog C x22 true  (pure (Next.value (ρ 3))) fun x24 => QG Tryd.prog C x22 true  (pure (Next.value (ρ 5))) fun x25 => QG Tryd.prog C x22 true  (do pure (Next.value (← Instr.indexAt 50 x24 x25))) fun x26 => QG Tryd.prog C x22 true  (do pure (Next.value (← Instr.loadAt 9 x26))) fun x27 => QG Tryd.prog C x22 true  (pure (Next.value (ρ 0))) fun x28 => QG Tryd.prog C x22 true  (nilCk x28) fun x29 => QG Tryd.prog C x22 true  (do pure (Next.value (← Instr.fieldAt 29 x29 1))) fun x30 => QG Tryd.prog C x22 true  (do pure (Next.value (← Instr.loadAt 27 x30))) fun x31 => QG Tryd.prog C x22 true  (pure (Next.value (ρ 4))) fun x32 => QG Tryd.prog C x22 true  (do pure (Next.value (← Instr.indexAt 27 x31 x32))) fun x33 => QG Tryd.prog C x22 true  (do pure (Next.value (← Instr.fieldAt 88 x33 0))) fun x34 => QG Tryd.prog C x22 true  (do pure (Next.value (← Instr.fieldAt 32 x34 0))) fun x35 => QG Tryd.prog C x22 true  (do pure (Next.value (← Instr.loadAt 9 x35))) fun x36 => QG Tryd.prog C x22 true  (do pure (Next.value (← (do eqGuard BinOp.lss 9 (Operand.tmp 27) (Operand.tmp 36) x27 x36; binOp BinOp.lss 9 x27 x36)))) fun x37 => QK Tryd.prog C (do pure (Next.value (if ← asBool x22 then x37 else (Value.bool false)))) fun x38 => ∀ w', C w' → K Exit.normal (up (up (up (up (up (up (up (up (up (up (up (up (up (up (up (up (up (up (up (up ρ 19 (ρ 5)) 20 (ρ 3)) 21 x21) 22 x22) 23 x22) 24 x24) 25 x25) 26 x26) 27 x27) 28 x28) 29 x29) 30 x30) 31 x31) 32 x32) 33 x33) 34 x34) 35 x35) 36 x36) 37 x37) 38 x38) w'
theorem dispatcherref15_Coll_Odd_R7_quiet {D : List Deferred} (C : World → Prop) {K : Exit → Sl → World → Prop} {ρ : Sl} {w : World} (hC : C { w with drawn := w.drawn + 1 }) (h : dispatcherref15_Coll_Odd_R7_Q C K ρ) : W ⟨none, D⟩ Tryd.prog 116 dispatcherref15_Coll_Odd_R7 K ρ w := by
  have e : dispatcherref15_Coll_Odd_R7 = .region (idOf dispatcherref15_Coll_Odd_R7) dispatcherref15_Coll_Odd_R7_ops true := by kernel_rfl
  have q : sxq Tryd.prog C dispatcherref15_Coll_Odd_R7_ops (fun ρ' => ∀ w', C w' → K .normal ρ' w') dispatcherref15_Coll_Odd_R7_ops.toList ρ = dispatcherref15_Coll_Odd_R7_Q C K ρ := by kernel_rfl
  rw [e]
  exact W_quiet C (by kernel_rfl) (by kernel_rfl) (by kernel_rfl) hC (Eq.mpr q h)
noncomputable def dispatcherref15_Coll_Odd_R8_F (z : At) (K : Exit → Sl → World → Prop) (ρ : Sl) (w : World) : Prop :=
  CondK (ρ 38) (K .normal ρ w) (K (.exit 2) ρ w)
theorem dispatcherref15_Coll_Odd_R8_eq (z : At) (K : Exit → Sl → World → Prop) (ρ : Sl) (w : World) : sx z Tryd.prog 116 dispatcherref15_Coll_Odd_R8 K ρ w = dispatcherref15_Coll_Odd_R8_F z K ρ w := by kernel_rfl
noncomputable def dispatcherref15_Coll_Odd_R9_F (z : At) (K : Exit → Sl → World → Prop) (ρ : Sl) (w : World) : Prop :=
  BK Tryd.prog .add 3 (.tmp 39) (.const (Value.int .i64 1)) (ρ 5) (Value.int .i64 1) w fun x40 w => K .normal (up (up (up ρ 39 (ρ 5)) 40 x40) 5 x40) w
theorem dispatcherref15_Coll_Odd_R9_eq (z : At) (K : Exit → Sl → World → Prop) (ρ : Sl) (w : World) : sx z Tryd.prog 116 dispatcherref15_Coll_Odd_R9 K ρ w = dispatcherref15_Coll_Odd_R9_F z K ρ w := by kernel_rfl
noncomputable def dispatcherref15_Coll_Odd_R10_ops : Array Oper := opsOf dispatcherref15_Coll_Odd_R10
def dispatcherref15_Coll_Odd_R10_Q (C : World → Prop) (K : Exit → Sl → World → Prop) (ρ : Sl) : Prop :=
  QK Tryd.prog C (builtin Builtin.len #[50] 3 [false].toArray [(ρ 3)].toArray) fun x43 => QK Tryd.prog C (do pure (Next.value (← (do eqGuard BinOp.lss 3 (Operand.tmp 41) (Operand.tmp 43) (ρ 5) x43; binOp BinOp.lss 3 (ρ 5) x43)))) fun x44 => QG Tryd.prog C x44 true  (pure (Next.value (ρ 3))) fun x46 => QG Tryd.prog C x44 true  (pure (Next.value (ρ 5))) fun x47 => QG Tryd.prog C x44 true  (do pure (Next.value (← Instr.indexAt 50 x46 x47))) fun x48 => QG Tryd.prog C x44 true  (do pure (Next.value (← Instr.loadAt 9 x48))) fun x49 => QG Tryd.prog C x44 true  (pure (Next.value (ρ 0))) fun x50 => QG Tryd.prog C x44 true  (nilCk x50) fun x51 => QG Tryd.prog C x44 true  (do pure (Next.value (← Instr.fieldAt 29 x51 1))) fun x52 => QG Tryd.prog C x44 true  (do pure (Next.value (← Instr.loadAt 27 x52))) fun x53 => QG Tryd.prog C x44 true  (pure (Next.value (ρ 4))) fun x54 => QG Tryd.prog C x44 true  (do pure (Next.value (← Instr.indexAt 27 x53 x54))) fun x55 => QG Tryd.prog C x44 true  (do pure (Next.value (← Instr.fieldAt 88 x55 0))) fun x56 => QG Tryd.prog C x44 true  (do pure (Next.value (← Instr.fieldAt 32 x56 0))) fun x57 => QG Tryd.prog C x44 true  (do pure (Next.value (← Instr.loadAt 9 x57))) fun x58 => QG Tryd.prog C x44 true  (do pure (Next.value (← (do eqGuard BinOp.eql 9 (Operand.tmp 49) (Operand.tmp 58) x49 x58; binOp BinOp.eql 9 x49 x58)))) fun x59 => QK Tryd.prog C (do pure (Next.value (if ← asBool x44 then x59 else (Value.bool false)))) fun x60 => ∀ w', C w' → K Exit.normal (up (up (up (up (up (up (up (up (up (up (up (up (up (up (up (up (up (up (up (up ρ 41 (ρ 5)) 42 (ρ 3)) 43 x43) 44 x44) 45 x44) 46 x46) 47 x47) 48 x48) 49 x49) 50 x50) 51 x51) 52 x52) 53 x53) 54 x54) 55 x55) 56 x56) 57 x57) 58 x58) 59 x59) 60 x60) w'
theorem dispatcherref15_Coll_Odd_R10_quiet {D : List Deferred} (C : World → Prop) {K : Exit → Sl → World → Prop} {ρ : Sl} {w : World} (hC : C { w with drawn := w.drawn + 1 }) (h : dispatcherref15_Coll_Odd_R10_Q C K ρ) : W ⟨none, D⟩ Tryd.prog 116 dispatcherref15_Coll_Odd_R10 K ρ w := by
  have e : dispatcherref15_Coll_Odd_R10 = .region (idOf dispatcherref15_Coll_Odd_R10) dispatcherref15_Coll_Odd_R10_ops true := by kernel_rfl
  have q : sxq Tryd.prog C dispatcherref15_Coll_Odd_R10_ops (fun ρ' => ∀ w', C w' → K .normal ρ' w') dispatcherref15_Coll_Odd_R10_ops.toList ρ = dispatcherref15_Coll_Odd_R10_Q C K ρ := by kernel_rfl
  rw [e]
  exact W_quiet C (by kernel_rfl) (by kernel_rfl) (by kernel_rfl) hC (Eq.mpr q h)
noncomputable def dispatcherref15_Coll_Odd_R11_F (z : At) (K : Exit → Sl → World → Prop) (ρ : Sl) (w : World) : Prop :=
  CondK (ρ 60) (K (.exit 1) ρ w) (K .normal ρ w)
theorem dispatcherref15_Coll_Odd_R11_eq (z : At) (K : Exit → Sl → World → Prop) (ρ : Sl) (w : World) : sx z Tryd.prog 116 dispatcherref15_Coll_Odd_R11 K ρ w = dispatcherref15_Coll_Odd_R11_F z K ρ w := by kernel_rfl
noncomputable def dispatcherref15_Coll_Odd_R12_F (z : At) (K : Exit → Sl → World → Prop) (ρ : Sl) (w : World) : Prop :=
  VK Tryd.prog (Instr.buildSlice 50 0 [].toArray) w fun x61 w => VK Tryd.prog (Instr.sliceAt 50 (ρ 3) (some (ρ 5)) none none) w fun x64 w => IK Tryd.prog .append #[50, 50] 50 [false, false] [x61, x64] w fun x65 w => W z Tryd.prog 116 dispatcherref15_Coll_Odd_R15 K (up (up (up (up (up (up ρ 61 x61) 62 (ρ 3)) 63 (ρ 5)) 64 x64) 65 x65) 6 x65) w
theorem dispatcherref15_Coll_Odd_R12_eq (z : At) (K : Exit → Sl → World → Prop) (ρ : Sl) (w : World) : sx z Tryd.prog 116 dispatcherref15_Coll_Odd_R12 K ρ w = dispatcherref15_Coll_Odd_R12_F z K ρ w := by kernel_rfl
noncomputable def dispatcherref15_Coll_Odd_L13_F (z : At) (K : Exit → Sl → World → Prop) (ρ : Sl) (w : World) : Prop :=
  NK Tryd.prog (ρ 0) w fun x90 w => VK Tryd.prog (Instr.fieldAt 29 x90 1) w fun x91 w => VK Tryd.prog (Instr.loadAt 27 x91) w fun x92 w => IK Tryd.prog .len #[27] 3 [false] [x92] w fun x93 w => BK Tryd.prog .lss 3 (.tmp 88) (.tmp 93) (ρ 9) x93 w fun x94 w => CondK x94 (VK Tryd.prog (Instr.indexAt 50 (ρ 3) (ρ 8)) w fun x100 w => VK Tryd.prog (Instr.loadAt 9 x100) w fun x101 w => CK Tryd.prog (Value.func (Fn.func 54) #[] #[]) [(ρ 0), x101, (ρ 9)] w fun x103 w => CondK x103 (W z Tryd.prog 116 dispatcherref15_Coll_Odd_R17 (blkK 7 (seqK (sx z Tryd.prog 116 dispatcherref15_Coll_Odd_R16 K) K)) (up (up (up (up (up (up (up (up (up (up (up (up (up (up ρ 88 (ρ 9)) 89 (ρ 0)) 90 x90) 91 x91) 92 x92) 93 x93) 94 x94) 97 (ρ 0)) 98 (ρ 3)) 99 (ρ 8)) 100 x100) 101 x101) 102 (ρ 9)) 103 x103) w) (sx z Tryd.prog 116 dispatcherref15_Coll_Odd_R16 K (up (up (up (up (up (up (up (up (up (up (up (up (up (up ρ 88 (ρ 9)) 89 (ρ 0)) 90 x90) 91 x91) 92 x92) 93 x93) 94 x94) 97 (ρ 0)) 98 (ρ 3)) 99 (ρ 8)) 100 x100) 101 x101) 102 (ρ 9)) 103 x103) w)) (K (.exit 6) (up (up (up (up (up (up (up ρ 88 (ρ 9)) 89 (ρ 0)) 90 x90) 91 x91) 92 x92) 93 x93) 94 x94) w)
theorem dispatcherref15_Coll_Odd_L13_eq (z : At) (K : Exit → Sl → World → Prop) (ρ : Sl) (w : World) : sx z Tryd.prog 116 dispatcherref15_Coll_Odd_L13 K ρ w = dispatcherref15_Coll_Odd_L13_F z K ρ w := by kernel_rfl
theorem dispatcherref15_Coll_Odd_L13_ok : dstOk 116 dispatcherref15_Coll_Odd_L13 = true := by kernel_rfl
noncomputable def dispatcherref15_Coll_Odd_R14_F (z : At) (K : Exit → Sl → World → Prop) (ρ : Sl) (w : World) : Prop :=
  BK Tryd.prog .add 3 (.tmp 86) (.const (Value.int .i64 1)) (ρ 8) (Value.int .i64 1) w fun x87 w => K .normal (up (up (up ρ 86 (ρ 8)) 87 x87) 8 x87) w
theorem dispatcherref15_Coll_Odd_R14_eq (z : At) (K : Exit → Sl → World → Prop) (ρ : Sl) (w : World) : sx z Tryd.prog 116 dispatcherref15_Coll_Odd_R14 K ρ w = dispatcherref15_Coll_Odd_R14_F z K ρ w := by kernel_rfl
noncomputable def dispatcherref15_Coll_Odd_R15_ops : Array Oper := opsOf dispatcherref15_Coll_Odd_R15
def dispatcherref15_Coll_Odd_R15_H0 (S : World → Prop) (K : Sl → World → Prop) (ρ : Sl) (w : World) : Prop :=
  HK Tryd.prog S (do pure (Next.value (← Instr.sliceAt 50 (ρ 3) none (some (ρ 5)) none))) fun x68 => HK Tryd.prog S (nilCk (ρ 0)) fun x70 => HK Tryd.prog S (do pure (Next.value (← Instr.fieldAt 29 x70 1))) fun x71 => HK Tryd.prog S (do pure (Next.value (← Instr.loadAt 27 x71))) fun x72 => HK Tryd.prog S (do pure (Next.value (← Instr.indexAt 27 x72 (ρ 4)))) fun x74 => HK Tryd.prog S (do pure (Next.value (← Instr.fieldAt 88 x74 0))) fun x75 => HK Tryd.prog S (do pure (Next.value (← Instr.fieldAt 32 x75 0))) fun x76 => HK Tryd.prog S (do pure (Next.value (← Instr.loadAt 9 x76))) fun x77 => K (up (up (up (up (up (up (up (up (up (up (up (up ρ 66 (ρ 3)) 67 (ρ 5)) 68 x68) 69 (ρ 0)) 70 x70) 71 x71) 72 x72) 73 (ρ 4)) 74 x74) 75 x75) 76 x76) 77 x77) w
theorem dispatcherref15_Coll_Odd_R15_q0 (S : World → Prop) (K : Sl → World → Prop) : sxh Tryd.prog S dispatcherref15_Coll_Odd_R15_ops K [(0, true), (1, true), (2, true), (3, true), (4, true), (5, true), (6, true), (7, true), (8, true), (9, true), (10, true), (11, true)] = dispatcherref15_Coll_Odd_R15_H0 S K := by kernel_rfl
def dispatcherref15_Coll_Odd_R15_H1 (S : World → Prop) (K : Sl → World → Prop) (ρ : Sl) (w : World) : Prop :=
  VK Tryd.prog (Instr.buildSlice 50 1 [(0, (ρ 77))].toArray) w fun x78 w => S w ∧ (IK Tryd.prog Builtin.append #[50, 50] 50 [false, false] [(ρ 68), x78] w fun x79 w => S w ∧ (IK Tryd.prog Builtin.append #[50, 50] 50 [false, false] [x79, (ρ 6)] w fun x81 w => S w ∧ (K (up (up (up (up (up ρ 80 (ρ 6)) 78 x78) 79 x79) 81 x81) 3 x81) w)))
theorem dispatcherref15_Coll_Odd_R15_q1 (S : World → Prop) (K : Sl → World → Prop) : sxh Tryd.prog S dispatcherref15_Coll_Odd_R15_ops K [(14, true), (12, false), (13, false), (15, false), (16, true)] = dispatcherref15_Coll_Odd_R15_H1 S K := by kernel_rfl
def dispatcherref15_Coll_Odd_R15_H (S : World → Prop) (K : Exit → Sl → World → Prop) (ρ : Sl) (w : World) : Prop :=
  dispatcherref15_Coll_Odd_R15_H0 S (dispatcherref15_Coll_Odd_R15_H1 S (K .normal)) ρ w
theorem dispatcherref15_Coll_Odd_R15_steps : planOk Tryd.prog 116 dispatcherref15_Coll_Odd_R15_ops [(0, true), (1, true), (2, true), (3, true), (4, true), (5, true), (6, true), (7, true), (8, true), (9, true), (10, true), (11, true), (14, true), (12, false), (13, false), (15, false), (16, true)] (Array.replicate dispatcherref15_Coll_Odd_R15_ops.size false) = true :=
  by kernel_rfl
theorem dispatcherref15_Coll_Odd_R15_held {D : List Deferred} (S : World → Prop) {K : Exit → Sl → World → Prop} {ρ : Sl} {w : World} (hS : S { w with drawn := w.drawn + 1 }) (h : dispatcherref15_Coll_Odd_R15_H S K ρ { w with drawn := w.drawn + 1 }) : W ⟨none, D⟩ Tryd.prog 116 dispatcherref15_Coll_Odd_R15 K ρ w := by
  have e : dispatcherref15_Coll_Odd_R15 = .region (idOf dispatcherref15_Coll_Odd_R15) dispatcherref15_Coll_Odd_R15_ops true := by kernel_rfl
  have q : sxh Tryd.prog S dispatcherref15_Coll_Odd_R15_ops (K .normal) [(0, true), (1, true), (2, true), (3, true), (4, true), (5, true), (6, true), (7, true), (8, true), (9, true), (10, true), (11, true), (14, true), (12, false), (13, false), (15, false), (16, true)] ρ { w with drawn := w.drawn + 1 } = dispatcherref15_Coll_Odd_R15_H S K ρ { w with drawn := w.drawn + 1 } := by
    show sxh Tryd.prog S dispatcherref15_Coll_Odd_R15_ops (K .normal) ([(0, true), (1, true), (2, true), (3, true), (4, true), (5, true), (6, true), (7, true), (8, true), (9, true), (10, true), (11, true)] ++ [(14, true), (12, false), (13, false), (15, false), (16, true)]) ρ { w with drawn := w.drawn + 1 } = _
    rw [sxh_append, dispatcherref15_Coll_Odd_R15_q1, dispatcherref15_Coll_Odd_R15_q0]; rfl
  rw [e]
  exact W_held S [(0, true), (1, true), (2, true), (3, true), (4, true), (5, true), (6, true), (7, true), (8, true), (9, true), (10, true), (11, true), (14, true), (12, false), (13, false), (15, false), (16, true)] (by kernel_rfl) (by kernel_rfl) dispatcherref15_Coll_Odd_R15_steps (by kernel_rfl) hS (Eq.mpr q h)
noncomputable def dispatcherref15_Coll_Odd_R16_F (z : At) (K : Exit → Sl → World → Prop) (ρ : Sl) (w : World) : Prop :=
  BK Tryd.prog .add 3 (.tmp 95) (.const (Value.int .i64 1)) (ρ 9) (Value.int .i64 1) w fun x96 w => K .normal (up (up (up ρ 95 (ρ 9)) 96 x96) 9 x96) w
theorem dispatcherref15_Coll_Odd_R16_eq (z : At) (K : Exit → Sl → World → Prop) (ρ : Sl) (w : World) : sx z Tryd.prog 116 dispatcherref15_Coll_Odd_R16 K ρ w = dispatcherref15_Coll_Odd_R16_F z K ρ w := by kernel_rfl
noncomputable def dispatcherref15_Coll_Odd_R17_ops : Array Oper := opsOf dispatcherref15_Coll_Odd_R17
def dispatcherref15_Coll_Odd_R17_H (S : World → Prop) (K : Exit → Sl → World → Prop) (ρ : Sl) (w : World) : Prop :=
  HK Tryd.prog S (do pure (Next.value (← Instr.indexAt 50 (ρ 3) (ρ 8)))) fun x107 => HK Tryd.prog S (do pure (Next.value (← Instr.loadAt 9 x107))) fun x108 => HK Tryd.prog S (do pure (Next.value (← (do eqGuard BinOp.add 9 (Operand.tmp 108) (Operand.const (Value.string { data := #[46] })) x108 (Value.string { data := #[46] }); binOp BinOp.add 9 x108 (Value.string { data := #[46] }))))) fun x109 => CK Tryd.prog (Value.func (Fn.func 55) #[] #[]) [(ρ 9)] w fun x111 w => S w ∧ (HK Tryd.prog S (do pure (Next.value (← (do eqGuard BinOp.add 9 (Operand.tmp 109) (Operand.tmp 111) x109 x111; binOp BinOp.add 9 x109 x111)))) fun x112 => VK Tryd.prog (Instr.buildSlice 50 1 [(0, x112)].toArray) w fun x113 w => S w ∧ (IK Tryd.prog Builtin.append #[50, 50] 50 [false, false] [(ρ 7), x113] w fun x114 w => S w ∧ (K Exit.normal (up (up (up (up (up (up (up (up (up (up (up (up ρ 104 (ρ 7)) 105 (ρ 3)) 106 (ρ 8)) 107 x107) 108 x108) 109 x109) 110 (ρ 9)) 111 x111) 112 x112) 113 x113) 114 x114) 7 x114) w)))
theorem dispatcherref15_Coll_Odd_R17_held {D : List Deferred} (S : World → Prop) {K : Exit → Sl → World → Prop} {ρ : Sl} {w : World} (hS : S { w with drawn := w.drawn + 1 }) (h : dispatcherref15_Coll_Odd_R17_H S K ρ { w with drawn := w.drawn + 1 }) : W ⟨none, D⟩ Tryd.prog 116 dispatcherref15_Coll_Odd_R17 K ρ w := by
  have e : dispatcherref15_Coll_Odd_R17 = .region (idOf dispatcherref15_Coll_Odd_R17) dispatcherref15_Coll_Odd_R17_ops true := by kernel_rfl
  have q : sxh Tryd.prog S dispatcherref15_Coll_Odd_R17_ops (K .normal) [(0, true), (1, true), (2, true), (3, true), (4, true), (5, true), (6, true), (7, false), (8, true), (9, false), (10, false), (11, true)] ρ { w with drawn := w.drawn + 1 } = dispatcherref15_Coll_Odd_R17_H S K ρ { w with drawn := w.drawn + 1 } := by kernel_rfl
  rw [e]
  exact W_held S [(0, true), (1, true), (2, true), (3, true), (4, true), (5, true), (6, true), (7, false), (8, true), (9, false), (10, false), (11, true)] (by kernel_rfl) (by kernel_rfl) (by kernel_rfl) (by kernel_rfl) hS (Eq.mpr q h)
noncomputable def dispatcherref15_Coll_Odd_F (a0 : Value) (w : World) (R : Value → World → Prop) : Prop :=
  W fn_ Tryd.prog 116 (Code.loop dispatcherref15_Coll_Odd_L0) (blkK 0 (seqK (sx fn_ Tryd.prog 116 dispatcherref15_Coll_Odd_R1 (retK Tryd.prog [ResultVar.tmp 2] R)) (retK Tryd.prog [ResultVar.tmp 2] R))) (up (up (up (rho0 [a0]) 2 (Value.slice none 0 0)) 3 (Value.slice none 0 0)) 4 (Value.int .i64 0)) w
theorem dispatcherref15_Coll_Odd_eq (a0 : Value) (w : World) (R : Value → World → Prop) : sx fn_ Tryd.prog 116 dispatcherref15_Coll_Odd_b (retK Tryd.prog Tryd.f25.results.toList R) (rho0 [a0]) w = dispatcherref15_Coll_Odd_F a0 w R := by kernel_rfl
theorem dispatcherref15_Coll_Odd_calls {a0 : Value} {w : World} {R : Value → World → Prop} (h : dispatcherref15_Coll_Odd_F a0 w R) : Calls Tryd.prog 25 #[a0] w fun e w' => ∃ v, e = .returned v ∧ R v w' :=
  Go.X.calls_of_sx (n := 116) (c := dispatcherref15_Coll_Odd_b) Tryd.func25 (by kernel_rfl) (by kernel_rfl) (Nat.le_of_ble_eq_true rfl) (by kernel_rfl) (Eq.mpr (dispatcherref15_Coll_Odd_eq a0 w R) h)
noncomputable def dispatcherlaw11_Great_b : Code := (Tryd.f33.body).getD .skip
noncomputable def dispatcherlaw11_Great_F (a0 : Value) (w : World) (R : Value → World → Prop) : Prop :=
  VK Tryd.prog (Instr.box 32 a0) w fun x1 w => VK Tryd.prog (Instr.fieldAt 32 x1 1) w fun x3 w => VK Tryd.prog (Instr.loadAt 30 x3) w fun x4 w => IK Tryd.prog .len #[30] 3 [false] [x4] w fun x5 w => BK Tryd.prog .gtr 3 (.tmp 5) (.const (Value.int .i64 80)) x5 (Value.int .i64 80) w fun x6 w => VG Tryd.prog x6 false (Instr.fieldAt 32 x1 0) w fun x8 w => VG Tryd.prog x6 false (Instr.loadAt 9 x8) w fun x9 w => IG Tryd.prog x6 false .len #[9] 3 [false] [x9] w fun x10 w => BG Tryd.prog x6 false .gtr 3 (.tmp 10) (.const (Value.int .i64 200)) x10 (Value.int .i64 200) w fun x11 w => PK Tryd.prog x6 (Value.bool true) x11 w fun x12 w => R x12 w
theorem dispatcherlaw11_Great_eq (a0 : Value) (w : World) (R : Value → World → Prop) : sx fn_ Tryd.prog 13 dispatcherlaw11_Great_b (retK Tryd.prog Tryd.f33.results.toList R) (rho0 [a0]) w = dispatcherlaw11_Great_F a0 w R := by kernel_rfl
theorem dispatcherlaw11_Great_calls {a0 : Value} {w : World} {R : Value → World → Prop} (h : dispatcherlaw11_Great_F a0 w R) : Calls Tryd.prog 33 #[a0] w fun e w' => ∃ v, e = .returned v ∧ R v w' :=
  Go.X.calls_of_sx (n := 13) (c := dispatcherlaw11_Great_b) Tryd.func33 (by kernel_rfl) (by kernel_rfl) (Nat.le_of_ble_eq_true rfl) (by kernel_rfl) (Eq.mpr (dispatcherlaw11_Great_eq a0 w R) h)
noncomputable def dispatcherref15_Coll_group_b : Code := (Tryd.f39.body).getD .skip
noncomputable def dispatcherref15_Coll_group_L0 : Code := cAt [1, 0, 1, 0, 0] dispatcherref15_Coll_group_b
noncomputable def dispatcherref15_Coll_group_R1 : Code := cAt [1, 1] dispatcherref15_Coll_group_b
noncomputable def dispatcherref15_Coll_group_L0_F (z : At) (K : Exit → Sl → World → Prop) (ρ : Sl) (w : World) : Prop :=
  NK Tryd.prog (ρ 0) w fun x9 w => VK Tryd.prog (Instr.fieldAt 29 x9 1) w fun x10 w => VK Tryd.prog (Instr.loadAt 27 x10) w fun x11 w => IK Tryd.prog .len #[27] 3 [false] [x11] w fun x12 w => BK Tryd.prog .lss 3 (.tmp 7) (.tmp 12) (ρ 6) x12 w fun x13 w => CondK x13 (NK Tryd.prog (ρ 0) w fun x17 w => VK Tryd.prog (Instr.fieldAt 29 x17 1) w fun x18 w => VK Tryd.prog (Instr.loadAt 27 x18) w fun x19 w => VK Tryd.prog (Instr.indexAt 27 x19 (ρ 6)) w fun x21 w => VK Tryd.prog (Instr.fieldAt 88 x21 0) w fun x22 w => VK Tryd.prog (Instr.fieldAt 32 x22 0) w fun x23 w => VK Tryd.prog (Instr.loadAt 9 x23) w fun x24 w => BK Tryd.prog .eql 9 (.tmp 24) (.tmp 25) x24 (ρ 1) w fun x26 w => CondK x26 (NK Tryd.prog (ρ 0) w fun x28 w => VK Tryd.prog (Instr.fieldAt 29 x28 1) w fun x29 w => VK Tryd.prog (Instr.loadAt 27 x29) w fun x30 w => VK Tryd.prog (Instr.indexAt 27 x30 (ρ 6)) w fun x32 w => VK Tryd.prog (Instr.fieldAt 88 x32 0) w fun x33 w => VK Tryd.prog (Instr.loadAt 32 x33) w fun x34 w => UK Tryd.prog (Instr.storeAt 32 (ρ 4) x34) w fun _ w => K .ret (up (up (up (up (up (up (up (up (up (up (up (up (up (up (up (up (up (up (up (up (up (up (up (up (up (up (up ρ 7 (ρ 6)) 8 (ρ 0)) 9 x9) 10 x10) 11 x11) 12 x12) 13 x13) 16 (ρ 0)) 17 x17) 18 x18) 19 x19) 20 (ρ 6)) 21 x21) 22 x22) 23 x23) 24 x24) 25 (ρ 1)) 26 x26) 27 (ρ 0)) 28 x28) 29 x29) 30 x30) 31 (ρ 6)) 32 x32) 33 x33) 34 x34) 5 (Value.bool true)) w) (BK Tryd.prog .add 3 (.tmp 14) (.const (Value.int .i64 1)) (ρ 6) (Value.int .i64 1) w fun x15 w => K .normal (up (up (up (up (up (up (up (up (up (up (up (up (up (up (up (up (up (up (up (up (up ρ 7 (ρ 6)) 8 (ρ 0)) 9 x9) 10 x10) 11 x11) 12 x12) 13 x13) 16 (ρ 0)) 17 x17) 18 x18) 19 x19) 20 (ρ 6)) 21 x21) 22 x22) 23 x23) 24 x24) 25 (ρ 1)) 26 x26) 14 (ρ 6)) 15 x15) 6 x15) w)) (K (.exit 0) (up (up (up (up (up (up (up ρ 7 (ρ 6)) 8 (ρ 0)) 9 x9) 10 x10) 11 x11) 12 x12) 13 x13) w)
theorem dispatcherref15_Coll_group_L0_eq (z : At) (K : Exit → Sl → World → Prop) (ρ : Sl) (w : World) : sx z Tryd.prog 36 dispatcherref15_Coll_group_L0 K ρ w = dispatcherref15_Coll_group_L0_F z K ρ w := by kernel_rfl
theorem dispatcherref15_Coll_group_L0_ok : dstOk 36 dispatcherref15_Coll_group_L0 = true := by kernel_rfl
noncomputable def dispatcherref15_Coll_group_R1_F (z : At) (K : Exit → Sl → World → Prop) (ρ : Sl) (w : World) : Prop :=
  VK Tryd.prog (Instr.build 32 [].toArray) w fun x35 w => UK Tryd.prog (Instr.storeAt 32 (ρ 4) x35) w fun _ w => K .ret (up (up ρ 35 x35) 5 (Value.bool false)) w
theorem dispatcherref15_Coll_group_R1_eq (z : At) (K : Exit → Sl → World → Prop) (ρ : Sl) (w : World) : sx z Tryd.prog 36 dispatcherref15_Coll_group_R1 K ρ w = dispatcherref15_Coll_group_R1_F z K ρ w := by kernel_rfl
noncomputable def dispatcherref15_Coll_group_F (a0 a1 : Value) (w : World) (R : Value → World → Prop) : Prop :=
  VK Tryd.prog (Instr.alloc 32 true (.tuple #[])) w fun x4 w => W fn_ Tryd.prog 36 (Code.loop dispatcherref15_Coll_group_L0) (blkK 0 (seqK (sx fn_ Tryd.prog 36 dispatcherref15_Coll_group_R1 (retK Tryd.prog [ResultVar.cell 4 32, ResultVar.tmp 5] R)) (retK Tryd.prog [ResultVar.cell 4 32, ResultVar.tmp 5] R))) (up (up (up (rho0 [a0, a1]) 4 x4) 5 (Value.bool false)) 6 (Value.int .i64 0)) w
theorem dispatcherref15_Coll_group_eq (a0 a1 : Value) (w : World) (R : Value → World → Prop) : sx fn_ Tryd.prog 36 dispatcherref15_Coll_group_b (retK Tryd.prog Tryd.f39.results.toList R) (rho0 [a0, a1]) w = dispatcherref15_Coll_group_F a0 a1 w R := by kernel_rfl
theorem dispatcherref15_Coll_group_calls {a0 a1 : Value} {w : World} {R : Value → World → Prop} (h : dispatcherref15_Coll_group_F a0 a1 w R) : Calls Tryd.prog 39 #[a0, a1] w fun e w' => ∃ v, e = .returned v ∧ R v w' :=
  Go.X.calls_of_sx (n := 36) (c := dispatcherref15_Coll_group_b) Tryd.func39 (by kernel_rfl) (by kernel_rfl) (Nat.le_of_ble_eq_true rfl) (by kernel_rfl) (Eq.mpr (dispatcherref15_Coll_group_eq a0 a1 w R) h)
noncomputable def dispatcherref11_Number_b : Code := (Tryd.f40.body).getD .skip
noncomputable def dispatcherref11_Number_L0 : Code := cAt [1, 0, 1, 0, 0] dispatcherref11_Number_b
noncomputable def dispatcherref11_Number_R1 : Code := cAt [1, 1] dispatcherref11_Number_b
noncomputable def dispatcherref11_Number_L0_F (z : At) (K : Exit → Sl → World → Prop) (ρ : Sl) (w : World) : Prop :=
  VK Tryd.prog (Instr.fieldAt 32 (ρ 2) 1) w fun x8 w => VK Tryd.prog (Instr.loadAt 30 x8) w fun x9 w => IK Tryd.prog .len #[30] 3 [false] [x9] w fun x10 w => BK Tryd.prog .lss 3 (.tmp 7) (.tmp 10) (ρ 6) x10 w fun x11 w => CondK x11 (VK Tryd.prog (Instr.fieldAt 32 (ρ 2) 1) w fun x14 w => VK Tryd.prog (Instr.loadAt 30 x14) w fun x15 w => VK Tryd.prog (Instr.indexAt 30 x15 (ρ 6)) w fun x17 w => VK Tryd.prog (Instr.loadAt 3 x17) w fun x18 w => BK Tryd.prog .eql 3 (.tmp 18) (.tmp 19) x18 (ρ 1) w fun x20 w => CondK x20 (K .ret (up (up (up (up (up (up (up (up (up (up (up (up (up (up (up ρ 7 (ρ 6)) 8 x8) 9 x9) 10 x10) 11 x11) 14 x14) 15 x15) 16 (ρ 6)) 17 x17) 18 x18) 19 (ρ 1)) 20 x20) 21 (ρ 6)) 4 (ρ 6)) 5 (Value.bool true)) w) (BK Tryd.prog .add 3 (.tmp 12) (.const (Value.int .i64 1)) (ρ 6) (Value.int .i64 1) w fun x13 w => K .normal (up (up (up (up (up (up (up (up (up (up (up (up (up (up (up ρ 7 (ρ 6)) 8 x8) 9 x9) 10 x10) 11 x11) 14 x14) 15 x15) 16 (ρ 6)) 17 x17) 18 x18) 19 (ρ 1)) 20 x20) 12 (ρ 6)) 13 x13) 6 x13) w)) (K (.exit 0) (up (up (up (up (up ρ 7 (ρ 6)) 8 x8) 9 x9) 10 x10) 11 x11) w)
theorem dispatcherref11_Number_L0_eq (z : At) (K : Exit → Sl → World → Prop) (ρ : Sl) (w : World) : sx z Tryd.prog 22 dispatcherref11_Number_L0 K ρ w = dispatcherref11_Number_L0_F z K ρ w := by kernel_rfl
theorem dispatcherref11_Number_L0_ok : dstOk 22 dispatcherref11_Number_L0 = true := by kernel_rfl
noncomputable def dispatcherref11_Number_R1_F (z : At) (K : Exit → Sl → World → Prop) (ρ : Sl) (w : World) : Prop :=
  K .ret (up (up ρ 4 (Value.int .i64 0)) 5 (Value.bool false)) w
theorem dispatcherref11_Number_R1_eq (z : At) (K : Exit → Sl → World → Prop) (ρ : Sl) (w : World) : sx z Tryd.prog 22 dispatcherref11_Number_R1 K ρ w = dispatcherref11_Number_R1_F z K ρ w := by kernel_rfl
noncomputable def dispatcherref11_Number_F (a0 a1 : Value) (w : World) (R : Value → World → Prop) : Prop :=
  VK Tryd.prog (Instr.box 32 a0) w fun x2 w => W fn_ Tryd.prog 22 (Code.loop dispatcherref11_Number_L0) (blkK 0 (seqK (sx fn_ Tryd.prog 22 dispatcherref11_Number_R1 (retK Tryd.prog [ResultVar.tmp 4, ResultVar.tmp 5] R)) (retK Tryd.prog [ResultVar.tmp 4, ResultVar.tmp 5] R))) (up (up (up (up (rho0 [a0, a1]) 2 x2) 4 (Value.int .i64 0)) 5 (Value.bool false)) 6 (Value.int .i64 0)) w
theorem dispatcherref11_Number_eq (a0 a1 : Value) (w : World) (R : Value → World → Prop) : sx fn_ Tryd.prog 22 dispatcherref11_Number_b (retK Tryd.prog Tryd.f40.results.toList R) (rho0 [a0, a1]) w = dispatcherref11_Number_F a0 a1 w R := by kernel_rfl
theorem dispatcherref11_Number_calls {a0 a1 : Value} {w : World} {R : Value → World → Prop} (h : dispatcherref11_Number_F a0 a1 w R) : Calls Tryd.prog 40 #[a0, a1] w fun e w' => ∃ v, e = .returned v ∧ R v w' :=
  Go.X.calls_of_sx (n := 22) (c := dispatcherref11_Number_b) Tryd.func40 (by kernel_rfl) (by kernel_rfl) (Nat.le_of_ble_eq_true rfl) (by kernel_rfl) (Eq.mpr (dispatcherref11_Number_eq a0 a1 w R) h)
noncomputable def dispatcherref11_May_b : Code := (Tryd.f41.body).getD .skip
noncomputable def dispatcherref11_May_L0 : Code := cAt [1, 1, 0, 1, 0, 0] dispatcherref11_May_b
noncomputable def dispatcherref11_May_R1 : Code := cAt [1, 1, 1] dispatcherref11_May_b
noncomputable def dispatcherref11_May_L2 : Code := cAt [1, 1, 0, 1, 0, 0, 1, 0, 0, 1, 1, 0, 0] dispatcherref11_May_b
noncomputable def dispatcherref11_May_R3 : Code := cAt [1, 1, 0, 1, 0, 0, 1, 1] dispatcherref11_May_b
noncomputable def dispatcherref11_May_R4 : Code := cAt [1, 1, 0, 1, 0, 0, 1, 0, 0, 1, 1, 0, 0, 1, 0, 0, 0] dispatcherref11_May_b
noncomputable def dispatcherref11_May_R5 : Code := cAt [1, 1, 0, 1, 0, 0, 1, 0, 0, 1, 1, 0, 0, 1, 0, 0, 1] dispatcherref11_May_b
noncomputable def dispatcherref11_May_R6 : Code := cAt [1, 1, 0, 1, 0, 0, 1, 0, 0, 1, 1, 0, 0, 1, 1] dispatcherref11_May_b
noncomputable def dispatcherref11_May_L0_F (z : At) (K : Exit → Sl → World → Prop) (ρ : Sl) (w : World) : Prop :=
  VK Tryd.prog (Instr.fieldAt 32 (ρ 1) 1) w fun x16 w => VK Tryd.prog (Instr.loadAt 30 x16) w fun x17 w => IK Tryd.prog .len #[30] 3 [false] [x17] w fun x18 w => BK Tryd.prog .lss 3 (.tmp 15) (.tmp 18) (ρ 3) x18 w fun x19 w => CondK x19 (VK Tryd.prog (Instr.fieldAt 32 (ρ 1) 1) w fun x22 w => VK Tryd.prog (Instr.loadAt 30 x22) w fun x23 w => VK Tryd.prog (Instr.indexAt 30 x23 (ρ 3)) w fun x25 w => VK Tryd.prog (Instr.loadAt 3 x25) w fun x26 w => BK Tryd.prog .lss 3 (.tmp 26) (.const (Value.int .i64 0)) x26 (Value.int .i64 0) w fun x27 w => VG Tryd.prog x27 false (Instr.fieldAt 32 (ρ 1) 1) w fun x29 w => VG Tryd.prog x27 false (Instr.loadAt 30 x29) w fun x30 w => MG Tryd.prog x27 false (ρ 3) w fun x31 w => VG Tryd.prog x27 false (Instr.indexAt 30 x30 x31) w fun x32 w => VG Tryd.prog x27 false (Instr.loadAt 3 x32) w fun x33 w => BG Tryd.prog x27 false .gtr 3 (.tmp 33) (.const (Value.int .i64 63)) x33 (Value.int .i64 63) w fun x34 w => PK Tryd.prog x27 (Value.bool true) x34 w fun x35 w => CondK x35 (K .ret (up (up (up (up (up (up (up (up (up (up (up (up (up (up (up (up (up (up (up (up ρ 15 (ρ 3)) 16 x16) 17 x17) 18 x18) 19 x19) 22 x22) 23 x23) 24 (ρ 3)) 25 x25) 26 x26) 27 x27) 28 x27) 29 x29) 30 x30) 31 x31) 32 x32) 33 x33) 34 x34) 35 x35) 2 (Value.bool false)) w) (W z Tryd.prog 52 (Code.loop dispatcherref11_May_L2) (blkK 2 (blkK 1 (seqK (sx z Tryd.prog 52 dispatcherref11_May_R3 K) K))) (up (up (up (up (up (up (up (up (up (up (up (up (up (up (up (up (up (up (up (up ρ 15 (ρ 3)) 16 x16) 17 x17) 18 x18) 19 x19) 22 x22) 23 x23) 24 (ρ 3)) 25 x25) 26 x26) 27 x27) 28 x27) 29 x29) 30 x30) 31 x31) 32 x32) 33 x33) 34 x34) 35 x35) 4 (Value.int .i64 0)) w)) (K (.exit 0) (up (up (up (up (up ρ 15 (ρ 3)) 16 x16) 17 x17) 18 x18) 19 x19) w)
theorem dispatcherref11_May_L0_eq (z : At) (K : Exit → Sl → World → Prop) (ρ : Sl) (w : World) : sx z Tryd.prog 52 dispatcherref11_May_L0 K ρ w = dispatcherref11_May_L0_F z K ρ w := by kernel_rfl
theorem dispatcherref11_May_L0_ok : dstOk 52 dispatcherref11_May_L0 = true := by kernel_rfl
noncomputable def dispatcherref11_May_R1_F (z : At) (K : Exit → Sl → World → Prop) (ρ : Sl) (w : World) : Prop :=
  K .ret (up ρ 2 (Value.bool true)) w
theorem dispatcherref11_May_R1_eq (z : At) (K : Exit → Sl → World → Prop) (ρ : Sl) (w : World) : sx z Tryd.prog 52 dispatcherref11_May_R1 K ρ w = dispatcherref11_May_R1_F z K ρ w := by kernel_rfl
noncomputable def dispatcherref11_May_L2_F (z : At) (K : Exit → Sl → World → Prop) (ρ : Sl) (w : World) : Prop :=
  BK Tryd.prog .lss 3 (.tmp 36) (.tmp 37) (ρ 4) (ρ 3) w fun x38 w => CondK x38 (W z Tryd.prog 52 dispatcherref11_May_R4 (seqK (sx z Tryd.prog 52 dispatcherref11_May_R5 (blkK 3 (seqK (sx z Tryd.prog 52 dispatcherref11_May_R6 K) K))) (blkK 3 (seqK (sx z Tryd.prog 52 dispatcherref11_May_R6 K) K))) (up (up (up ρ 36 (ρ 4)) 37 (ρ 3)) 38 x38) w) (K (.exit 2) (up (up (up ρ 36 (ρ 4)) 37 (ρ 3)) 38 x38) w)
theorem dispatcherref11_May_L2_eq (z : At) (K : Exit → Sl → World → Prop) (ρ : Sl) (w : World) : sx z Tryd.prog 52 dispatcherref11_May_L2 K ρ w = dispatcherref11_May_L2_F z K ρ w := by kernel_rfl
theorem dispatcherref11_May_L2_ok : dstOk 52 dispatcherref11_May_L2 = true := by kernel_rfl
noncomputable def dispatcherref11_May_R3_F (z : At) (K : Exit → Sl → World → Prop) (ρ : Sl) (w : World) : Prop :=
  BK Tryd.prog .add 3 (.tmp 20) (.const (Value.int .i64 1)) (ρ 3) (Value.int .i64 1) w fun x21 w => K .normal (up (up (up ρ 20 (ρ 3)) 21 x21) 3 x21) w
theorem dispatcherref11_May_R3_eq (z : At) (K : Exit → Sl → World → Prop) (ρ : Sl) (w : World) : sx z Tryd.prog 52 dispatcherref11_May_R3 K ρ w = dispatcherref11_May_R3_F z K ρ w := by kernel_rfl
noncomputable def dispatcherref11_May_R4_ops : Array Oper := opsOf dispatcherref11_May_R4
def dispatcherref11_May_R4_Q (C : World → Prop) (K : Exit → Sl → World → Prop) (ρ : Sl) : Prop :=
  QK Tryd.prog C (do pure (Next.value (← Instr.fieldAt 32 (ρ 1) 1))) fun x41 => QK Tryd.prog C (do pure (Next.value (← Instr.loadAt 30 x41))) fun x42 => QK Tryd.prog C (do pure (Next.value (← Instr.indexAt 30 x42 (ρ 4)))) fun x44 => QK Tryd.prog C (do pure (Next.value (← Instr.loadAt 3 x44))) fun x45 => QK Tryd.prog C (do pure (Next.value (← Instr.fieldAt 32 (ρ 1) 1))) fun x46 => QK Tryd.prog C (do pure (Next.value (← Instr.loadAt 30 x46))) fun x47 => QK Tryd.prog C (do pure (Next.value (← Instr.indexAt 30 x47 (ρ 3)))) fun x49 => QK Tryd.prog C (do pure (Next.value (← Instr.loadAt 3 x49))) fun x50 => QK Tryd.prog C (do pure (Next.value (← (do eqGuard BinOp.eql 3 (Operand.tmp 45) (Operand.tmp 50) x45 x50; binOp BinOp.eql 3 x45 x50)))) fun x51 => ∀ w', C w' → K Exit.normal (up (up (up (up (up (up (up (up (up (up (up ρ 41 x41) 42 x42) 43 (ρ 4)) 44 x44) 45 x45) 46 x46) 47 x47) 48 (ρ 3)) 49 x49) 50 x50) 51 x51) w'
theorem dispatcherref11_May_R4_quiet {D : List Deferred} (C : World → Prop) {K : Exit → Sl → World → Prop} {ρ : Sl} {w : World} (hC : C { w with drawn := w.drawn + 1 }) (h : dispatcherref11_May_R4_Q C K ρ) : W ⟨none, D⟩ Tryd.prog 52 dispatcherref11_May_R4 K ρ w := by
  have e : dispatcherref11_May_R4 = .region (idOf dispatcherref11_May_R4) dispatcherref11_May_R4_ops true := by kernel_rfl
  have q : sxq Tryd.prog C dispatcherref11_May_R4_ops (fun ρ' => ∀ w', C w' → K .normal ρ' w') dispatcherref11_May_R4_ops.toList ρ = dispatcherref11_May_R4_Q C K ρ := by kernel_rfl
  rw [e]
  exact W_quiet C (by kernel_rfl) (by kernel_rfl) (by kernel_rfl) hC (Eq.mpr q h)
noncomputable def dispatcherref11_May_R5_F (z : At) (K : Exit → Sl → World → Prop) (ρ : Sl) (w : World) : Prop :=
  CondK (ρ 51) (K .ret (up ρ 2 (Value.bool false)) w) (K .normal ρ w)
theorem dispatcherref11_May_R5_eq (z : At) (K : Exit → Sl → World → Prop) (ρ : Sl) (w : World) : sx z Tryd.prog 52 dispatcherref11_May_R5 K ρ w = dispatcherref11_May_R5_F z K ρ w := by kernel_rfl
noncomputable def dispatcherref11_May_R6_F (z : At) (K : Exit → Sl → World → Prop) (ρ : Sl) (w : World) : Prop :=
  BK Tryd.prog .add 3 (.tmp 39) (.const (Value.int .i64 1)) (ρ 4) (Value.int .i64 1) w fun x40 w => K .normal (up (up (up ρ 39 (ρ 4)) 40 x40) 4 x40) w
theorem dispatcherref11_May_R6_eq (z : At) (K : Exit → Sl → World → Prop) (ρ : Sl) (w : World) : sx z Tryd.prog 52 dispatcherref11_May_R6 K ρ w = dispatcherref11_May_R6_F z K ρ w := by kernel_rfl
noncomputable def dispatcherref11_May_F (a0 : Value) (w : World) (R : Value → World → Prop) : Prop :=
  VK Tryd.prog (Instr.box 32 a0) w fun x1 w => VK Tryd.prog (Instr.fieldAt 32 x1 1) w fun x5 w => VK Tryd.prog (Instr.loadAt 30 x5) w fun x6 w => IK Tryd.prog .len #[30] 3 [false] [x6] w fun x7 w => BK Tryd.prog .lss 3 (.tmp 7) (.const (Value.int .i64 1)) x7 (Value.int .i64 1) w fun x8 w => VG Tryd.prog x8 false (Instr.fieldAt 32 x1 1) w fun x10 w => VG Tryd.prog x8 false (Instr.loadAt 30 x10) w fun x11 w => IG Tryd.prog x8 false .len #[30] 3 [false] [x11] w fun x12 w => BG Tryd.prog x8 false .gtr 3 (.tmp 12) (.const (Value.int .i64 64)) x12 (Value.int .i64 64) w fun x13 w => PK Tryd.prog x8 (Value.bool true) x13 w fun x14 w => CondK x14 (R (Value.bool false) w) (W fn_ Tryd.prog 52 (Code.loop dispatcherref11_May_L0) (blkK 0 (seqK (sx fn_ Tryd.prog 52 dispatcherref11_May_R1 (retK Tryd.prog [ResultVar.tmp 2] R)) (retK Tryd.prog [ResultVar.tmp 2] R))) (up (up (up (up (up (up (up (up (up (up (up (up (up (rho0 [a0]) 1 x1) 2 (Value.bool false)) 5 x5) 6 x6) 7 x7) 8 x8) 9 x8) 10 x10) 11 x11) 12 x12) 13 x13) 14 x14) 3 (Value.int .i64 0)) w)
theorem dispatcherref11_May_eq (a0 : Value) (w : World) (R : Value → World → Prop) : sx fn_ Tryd.prog 52 dispatcherref11_May_b (retK Tryd.prog Tryd.f41.results.toList R) (rho0 [a0]) w = dispatcherref11_May_F a0 w R := by kernel_rfl
theorem dispatcherref11_May_calls {a0 : Value} {w : World} {R : Value → World → Prop} (h : dispatcherref11_May_F a0 w R) : Calls Tryd.prog 41 #[a0] w fun e w' => ∃ v, e = .returned v ∧ R v w' :=
  Go.X.calls_of_sx (n := 52) (c := dispatcherref11_May_b) Tryd.func41 (by kernel_rfl) (by kernel_rfl) (Nat.le_of_ble_eq_true rfl) (by kernel_rfl) (Eq.mpr (dispatcherref11_May_eq a0 w R) h)
noncomputable def dispatcherref11_Same_b : Code := (Tryd.f42.body).getD .skip
noncomputable def dispatcherref11_Same_F (a0 a1 : Value) (w : World) (R : Value → World → Prop) : Prop :=
  VK Tryd.prog (Instr.box 32 a0) w fun x2 w => VK Tryd.prog (Instr.box 32 a1) w fun x3 w => VK Tryd.prog (Instr.fieldAt 32 x2 0) w fun x5 w => VK Tryd.prog (Instr.loadAt 9 x5) w fun x6 w => VK Tryd.prog (Instr.fieldAt 32 x3 0) w fun x7 w => VK Tryd.prog (Instr.loadAt 9 x7) w fun x8 w => BK Tryd.prog .eql 9 (.tmp 6) (.tmp 8) x6 x8 w fun x9 w => VG Tryd.prog x9 true (Instr.fieldAt 32 x2 1) w fun x11 w => VG Tryd.prog x9 true (Instr.loadAt 30 x11) w fun x12 w => VG Tryd.prog x9 true (Instr.fieldAt 32 x3 1) w fun x13 w => VG Tryd.prog x9 true (Instr.loadAt 30 x13) w fun x14 w => CG Tryd.prog x9 true (Value.func (Fn.func 63) #[] #[]) [x12, x14] w fun x15 w => PK Tryd.prog x9 x15 (Value.bool false) w fun x16 w => R x16 w
theorem dispatcherref11_Same_eq (a0 a1 : Value) (w : World) (R : Value → World → Prop) : sx fn_ Tryd.prog 17 dispatcherref11_Same_b (retK Tryd.prog Tryd.f42.results.toList R) (rho0 [a0, a1]) w = dispatcherref11_Same_F a0 a1 w R := by kernel_rfl
theorem dispatcherref11_Same_calls {a0 a1 : Value} {w : World} {R : Value → World → Prop} (h : dispatcherref11_Same_F a0 a1 w R) : Calls Tryd.prog 42 #[a0, a1] w fun e w' => ∃ v, e = .returned v ∧ R v w' :=
  Go.X.calls_of_sx (n := 17) (c := dispatcherref11_Same_b) Tryd.func42 (by kernel_rfl) (by kernel_rfl) (Nat.le_of_ble_eq_true rfl) (by kernel_rfl) (Eq.mpr (dispatcherref11_Same_eq a0 a1 w R) h)
noncomputable def dispatcherref11_Copy_b : Code := (Tryd.f43.body).getD .skip
noncomputable def dispatcherref11_Copy_R0 : Code := cAt [1, 0] dispatcherref11_Copy_b
noncomputable def dispatcherref11_Copy_R1 : Code := cAt [1, 1] dispatcherref11_Copy_b
noncomputable def dispatcherref11_Copy_R0_ops : Array Oper := opsOf dispatcherref11_Copy_R0
def dispatcherref11_Copy_R0_H (S : World → Prop) (K : Exit → Sl → World → Prop) (ρ : Sl) (w : World) : Prop :=
  HK Tryd.prog S (do pure (Next.value (← Instr.fieldAt 32 (ρ 1) 0))) fun x3 => HK Tryd.prog S (do pure (Next.value (← Instr.loadAt 9 x3))) fun x4 => HK Tryd.prog S (do pure (Next.value (← Instr.fieldAt 32 (ρ 1) 1))) fun x6 => HK Tryd.prog S (do pure (Next.value (← Instr.loadAt 30 x6))) fun x7 => VK Tryd.prog (Instr.buildSlice 30 0 [].toArray) w fun x5 w => S w ∧ (IK Tryd.prog Builtin.append #[30, 30] 30 [false, false] [x5, x7] w fun x8 w => S w ∧ (HK Tryd.prog S (do pure (Next.value (← Instr.build 32 [(0, x4), (1, x8)].toArray))) fun x9 => UK Tryd.prog (Instr.storeAt 32 (ρ 2) x9) w fun _ w => S w ∧ (K Exit.normal (up (up (up (up (up (up (up ρ 3 x3) 4 x4) 6 x6) 7 x7) 5 x5) 8 x8) 9 x9) w)))
theorem dispatcherref11_Copy_R0_held {D : List Deferred} (S : World → Prop) {K : Exit → Sl → World → Prop} {ρ : Sl} {w : World} (hS : S { w with drawn := w.drawn + 1 }) (h : dispatcherref11_Copy_R0_H S K ρ { w with drawn := w.drawn + 1 }) : W ⟨none, D⟩ Tryd.prog 10 dispatcherref11_Copy_R0 K ρ w := by
  have e : dispatcherref11_Copy_R0 = .region (idOf dispatcherref11_Copy_R0) dispatcherref11_Copy_R0_ops true := by kernel_rfl
  have q : sxh Tryd.prog S dispatcherref11_Copy_R0_ops (K .normal) [(0, true), (1, true), (3, true), (4, true), (2, false), (5, false), (6, true), (7, false)] ρ { w with drawn := w.drawn + 1 } = dispatcherref11_Copy_R0_H S K ρ { w with drawn := w.drawn + 1 } := by kernel_rfl
  rw [e]
  exact W_held S [(0, true), (1, true), (3, true), (4, true), (2, false), (5, false), (6, true), (7, false)] (by kernel_rfl) (by kernel_rfl) (by kernel_rfl) (by kernel_rfl) hS (Eq.mpr q h)
noncomputable def dispatcherref11_Copy_R1_F (z : At) (K : Exit → Sl → World → Prop) (ρ : Sl) (w : World) : Prop :=
  K .ret ρ w
theorem dispatcherref11_Copy_R1_eq (z : At) (K : Exit → Sl → World → Prop) (ρ : Sl) (w : World) : sx z Tryd.prog 10 dispatcherref11_Copy_R1 K ρ w = dispatcherref11_Copy_R1_F z K ρ w := by kernel_rfl
noncomputable def dispatcherref11_Copy_F (a0 : Value) (w : World) (R : Value → World → Prop) : Prop :=
  VK Tryd.prog (Instr.box 32 a0) w fun x1 w => VK Tryd.prog (Instr.alloc 32 true (.tuple #[])) w fun x2 w => W fn_ Tryd.prog 10 dispatcherref11_Copy_R0 (seqK (sx fn_ Tryd.prog 10 dispatcherref11_Copy_R1 (retK Tryd.prog [ResultVar.cell 2 32] R)) (retK Tryd.prog [ResultVar.cell 2 32] R)) (up (up (rho0 [a0]) 1 x1) 2 x2) w
theorem dispatcherref11_Copy_eq (a0 : Value) (w : World) (R : Value → World → Prop) : sx fn_ Tryd.prog 10 dispatcherref11_Copy_b (retK Tryd.prog Tryd.f43.results.toList R) (rho0 [a0]) w = dispatcherref11_Copy_F a0 w R := by kernel_rfl
theorem dispatcherref11_Copy_calls {a0 : Value} {w : World} {R : Value → World → Prop} (h : dispatcherref11_Copy_F a0 w R) : Calls Tryd.prog 43 #[a0] w fun e w' => ∃ v, e = .returned v ∧ R v w' :=
  Go.X.calls_of_sx (n := 10) (c := dispatcherref11_Copy_b) Tryd.func43 (by kernel_rfl) (by kernel_rfl) (Nat.le_of_ble_eq_true rfl) (by kernel_rfl) (Eq.mpr (dispatcherref11_Copy_eq a0 w R) h)
noncomputable def dispatcherref15_Coll_odd_b : Code := (Tryd.f54.body).getD .skip
noncomputable def dispatcherref15_Coll_odd_L0 : Code := cAt [1, 1, 0, 1, 0, 0] dispatcherref15_Coll_odd_b
noncomputable def dispatcherref15_Coll_odd_R1 : Code := cAt [1, 1, 1] dispatcherref15_Coll_odd_b
noncomputable def dispatcherref15_Coll_odd_L2 : Code := cAt [1, 1, 0, 1, 0, 0, 1, 0, 0, 1, 1, 0, 0] dispatcherref15_Coll_odd_b
noncomputable def dispatcherref15_Coll_odd_R3 : Code := cAt [1, 1, 0, 1, 0, 0, 1, 1] dispatcherref15_Coll_odd_b
noncomputable def dispatcherref15_Coll_odd_R4 : Code := cAt [1, 1, 0, 1, 0, 0, 1, 0, 0, 1, 1, 0, 0, 1, 0, 0, 1, 1] dispatcherref15_Coll_odd_b
noncomputable def dispatcherref15_Coll_odd_R5 : Code := cAt [1, 1, 0, 1, 0, 0, 1, 0, 0, 1, 1, 0, 0, 1, 1] dispatcherref15_Coll_odd_b
noncomputable def dispatcherref15_Coll_odd_L0_F (z : At) (K : Exit → Sl → World → Prop) (ρ : Sl) (w : World) : Prop :=
  VK Tryd.prog (Instr.fieldAt 32 (ρ 7) 1) w fun x22 w => VK Tryd.prog (Instr.loadAt 30 x22) w fun x23 w => IK Tryd.prog .len #[30] 3 [false] [x23] w fun x24 w => BK Tryd.prog .lss 3 (.tmp 21) (.tmp 24) (ρ 9) x24 w fun x25 w => CondK x25 (VK Tryd.prog (Instr.fieldAt 32 (ρ 7) 1) w fun x31 w => VK Tryd.prog (Instr.loadAt 30 x31) w fun x32 w => VK Tryd.prog (Instr.indexAt 30 x32 (ρ 9)) w fun x34 w => VK Tryd.prog (Instr.loadAt 3 x34) w fun x35 w => CK Tryd.prog (Value.func (Fn.func 64) #[] #[]) [(ρ 0), (ρ 1), x35, (ρ 2)] w fun x37 w => VK Tryd.prog (Instr.extract x37 0) w fun x38 w => VK Tryd.prog (Instr.extract x37 1) w fun x39 w => VK Tryd.prog (Instr.alloc 34 true (.tuple #[])) w fun x10 w => UK Tryd.prog (Instr.storeAt 34 x10 x38) w fun _ w => W z Tryd.prog 67 (Code.loop dispatcherref15_Coll_odd_L2) (blkK 2 (blkK 1 (seqK (sx z Tryd.prog 67 dispatcherref15_Coll_odd_R3 K) K))) (up (up (up (up (up (up (up (up (up (up (up (up (up (up (up (up (up (up (up (up ρ 21 (ρ 9)) 22 x22) 23 x23) 24 x24) 25 x25) 29 (ρ 0)) 30 (ρ 1)) 31 x31) 32 x32) 33 (ρ 9)) 34 x34) 35 x35) 36 (ρ 2)) 37 x37) 28 x37) 38 x38) 39 x39) 10 x10) 11 x39) 12 (Value.int .i64 0)) w) (K (.exit 0) (up (up (up (up (up ρ 21 (ρ 9)) 22 x22) 23 x23) 24 x24) 25 x25) w)
theorem dispatcherref15_Coll_odd_L0_eq (z : At) (K : Exit → Sl → World → Prop) (ρ : Sl) (w : World) : sx z Tryd.prog 67 dispatcherref15_Coll_odd_L0 K ρ w = dispatcherref15_Coll_odd_L0_F z K ρ w := by kernel_rfl
theorem dispatcherref15_Coll_odd_L0_ok : dstOk 67 dispatcherref15_Coll_odd_L0 = true := by kernel_rfl
noncomputable def dispatcherref15_Coll_odd_R1_F (z : At) (K : Exit → Sl → World → Prop) (ρ : Sl) (w : World) : Prop :=
  K .ret (up ρ 6 (Value.bool false)) w
theorem dispatcherref15_Coll_odd_R1_eq (z : At) (K : Exit → Sl → World → Prop) (ρ : Sl) (w : World) : sx z Tryd.prog 67 dispatcherref15_Coll_odd_R1 K ρ w = dispatcherref15_Coll_odd_R1_F z K ρ w := by kernel_rfl
noncomputable def dispatcherref15_Coll_odd_L2_F (z : At) (K : Exit → Sl → World → Prop) (ρ : Sl) (w : World) : Prop :=
  BK Tryd.prog .lss 3 (.tmp 40) (.tmp 41) (ρ 12) (ρ 9) w fun x42 w => MG Tryd.prog x42 true (ρ 11) w fun x44 w => PK Tryd.prog x42 x44 (Value.bool false) w fun x45 w => CondK x45 (VK Tryd.prog (Instr.fieldAt 32 (ρ 7) 1) w fun x51 w => VK Tryd.prog (Instr.loadAt 30 x51) w fun x52 w => VK Tryd.prog (Instr.indexAt 30 x52 (ρ 12)) w fun x54 w => VK Tryd.prog (Instr.loadAt 3 x54) w fun x55 w => CK Tryd.prog (Value.func (Fn.func 64) #[] #[]) [(ρ 0), (ρ 1), x55, (ρ 2)] w fun x57 w => VK Tryd.prog (Instr.extract x57 0) w fun x58 w => VK Tryd.prog (Instr.extract x57 1) w fun x59 w => VK Tryd.prog (Instr.alloc 34 true (.tuple #[])) w fun x13 w => UK Tryd.prog (Instr.storeAt 34 x13 x58) w fun _ w => VG Tryd.prog x59 true (Instr.loadAt 34 (ρ 10)) w fun x62 w => VG Tryd.prog x59 true (Instr.loadAt 34 x13) w fun x63 w => CG Tryd.prog x59 true (Value.func (Fn.func 22) #[] #[]) [x62, x63] w fun x64 w => VG Tryd.prog x59 true (Op.unary UnOp.not x64) w fun x65 w => PK Tryd.prog x59 x65 (Value.bool false) w fun x66 w => sx z Tryd.prog 67 dispatcherref15_Coll_odd_R4 (blkK 3 (seqK (sx z Tryd.prog 67 dispatcherref15_Coll_odd_R5 K) K)) (up (up (up (up (up (up (up (up (up (up (up (up (up (up (up (up (up (up (up (up (up (up (up (up (up (up (up ρ 40 (ρ 12)) 41 (ρ 9)) 42 x42) 43 x42) 44 x44) 45 x45) 49 (ρ 0)) 50 (ρ 1)) 51 x51) 52 x52) 53 (ρ 12)) 54 x54) 55 x55) 56 (ρ 2)) 57 x57) 48 x57) 58 x58) 59 x59) 13 x13) 14 x59) 60 x59) 61 x59) 62 x62) 63 x63) 64 x64) 65 x65) 66 x66) w) (K (.exit 2) (up (up (up (up (up (up ρ 40 (ρ 12)) 41 (ρ 9)) 42 x42) 43 x42) 44 x44) 45 x45) w)
theorem dispatcherref15_Coll_odd_L2_eq (z : At) (K : Exit → Sl → World → Prop) (ρ : Sl) (w : World) : sx z Tryd.prog 67 dispatcherref15_Coll_odd_L2 K ρ w = dispatcherref15_Coll_odd_L2_F z K ρ w := by kernel_rfl
theorem dispatcherref15_Coll_odd_L2_ok : dstOk 67 dispatcherref15_Coll_odd_L2 = true := by kernel_rfl
noncomputable def dispatcherref15_Coll_odd_R3_F (z : At) (K : Exit → Sl → World → Prop) (ρ : Sl) (w : World) : Prop :=
  BK Tryd.prog .add 3 (.tmp 26) (.const (Value.int .i64 1)) (ρ 9) (Value.int .i64 1) w fun x27 w => K .normal (up (up (up ρ 26 (ρ 9)) 27 x27) 9 x27) w
theorem dispatcherref15_Coll_odd_R3_eq (z : At) (K : Exit → Sl → World → Prop) (ρ : Sl) (w : World) : sx z Tryd.prog 67 dispatcherref15_Coll_odd_R3 K ρ w = dispatcherref15_Coll_odd_R3_F z K ρ w := by kernel_rfl
noncomputable def dispatcherref15_Coll_odd_R4_F (z : At) (K : Exit → Sl → World → Prop) (ρ : Sl) (w : World) : Prop :=
  CondK (ρ 66) (K .ret (up ρ 6 (Value.bool true)) w) (K .normal ρ w)
theorem dispatcherref15_Coll_odd_R4_eq (z : At) (K : Exit → Sl → World → Prop) (ρ : Sl) (w : World) : sx z Tryd.prog 67 dispatcherref15_Coll_odd_R4 K ρ w = dispatcherref15_Coll_odd_R4_F z K ρ w := by kernel_rfl
noncomputable def dispatcherref15_Coll_odd_R5_F (z : At) (K : Exit → Sl → World → Prop) (ρ : Sl) (w : World) : Prop :=
  BK Tryd.prog .add 3 (.tmp 46) (.const (Value.int .i64 1)) (ρ 12) (Value.int .i64 1) w fun x47 w => K .normal (up (up (up ρ 46 (ρ 12)) 47 x47) 12 x47) w
theorem dispatcherref15_Coll_odd_R5_eq (z : At) (K : Exit → Sl → World → Prop) (ρ : Sl) (w : World) : sx z Tryd.prog 67 dispatcherref15_Coll_odd_R5 K ρ w = dispatcherref15_Coll_odd_R5_F z K ρ w := by kernel_rfl
noncomputable def dispatcherref15_Coll_odd_F (a0 a1 a2 : Value) (w : World) (R : Value → World → Prop) : Prop :=
  CK Tryd.prog (Value.func (Fn.func 39) #[] #[]) [a0, a1] w fun x18 w => VK Tryd.prog (Instr.extract x18 0) w fun x19 w => VK Tryd.prog (Instr.extract x18 1) w fun x20 w => VK Tryd.prog (Instr.alloc 32 true (.tuple #[])) w fun x7 w => UK Tryd.prog (Instr.storeAt 32 x7 x19) w fun _ w => W fn_ Tryd.prog 67 (Code.loop dispatcherref15_Coll_odd_L0) (blkK 0 (seqK (sx fn_ Tryd.prog 67 dispatcherref15_Coll_odd_R1 (retK Tryd.prog [ResultVar.tmp 6] R)) (retK Tryd.prog [ResultVar.tmp 6] R))) (up (up (up (up (up (up (up (up (up (up (rho0 [a0, a1, a2]) 6 (Value.bool false)) 16 a0) 17 a1) 18 x18) 15 x18) 19 x19) 20 x20) 7 x7) 8 x20) 9 (Value.int .i64 0)) w
theorem dispatcherref15_Coll_odd_eq (a0 a1 a2 : Value) (w : World) (R : Value → World → Prop) : sx fn_ Tryd.prog 67 dispatcherref15_Coll_odd_b (retK Tryd.prog Tryd.f54.results.toList R) (rho0 [a0, a1, a2]) w = dispatcherref15_Coll_odd_F a0 a1 a2 w R := by kernel_rfl
theorem dispatcherref15_Coll_odd_calls {a0 a1 a2 : Value} {w : World} {R : Value → World → Prop} (h : dispatcherref15_Coll_odd_F a0 a1 a2 w R) : Calls Tryd.prog 54 #[a0, a1, a2] w fun e w' => ∃ v, e = .returned v ∧ R v w' :=
  Go.X.calls_of_sx (n := 67) (c := dispatcherref15_Coll_odd_b) Tryd.func54 (by kernel_rfl) (by kernel_rfl) (Nat.le_of_ble_eq_true rfl) (by kernel_rfl) (Eq.mpr (dispatcherref15_Coll_odd_eq a0 a1 a2 w R) h)
noncomputable def dispatcherref11_Digits_b : Code := (Tryd.f55.body).getD .skip
noncomputable def dispatcherref11_Digits_F (a0 : Value) (w : World) (R : Value → World → Prop) : Prop :=
  BK Tryd.prog .lss 3 (.tmp 3) (.const (Value.int .i64 10)) a0 (Value.int .i64 10) w fun x4 w => CondK x4 (VK Tryd.prog (convert 3 5 a0) w fun x6 w => BK Tryd.prog .add 5 (.const (Value.int .u8 48)) (.tmp 6) (Value.int .u8 48) x6 w fun x7 w => VK Tryd.prog (Instr.buildSlice 66 1 [(0, x7)].toArray) w fun x8 w => VK Tryd.prog (convert 66 9 x8) w fun x9 w => R x9 w) (BK Tryd.prog .quo 3 (.tmp 10) (.const (Value.int .i64 10)) a0 (Value.int .i64 10) w fun x11 w => CK Tryd.prog (Value.func (Fn.func 55) #[] #[]) [x11] w fun x12 w => BK Tryd.prog .rem 3 (.tmp 13) (.const (Value.int .i64 10)) a0 (Value.int .i64 10) w fun x14 w => CK Tryd.prog (Value.func (Fn.func 55) #[] #[]) [x14] w fun x15 w => BK Tryd.prog .add 9 (.tmp 12) (.tmp 15) x12 x15 w fun x16 w => R x16 w)
theorem dispatcherref11_Digits_eq (a0 : Value) (w : World) (R : Value → World → Prop) : sx fn_ Tryd.prog 17 dispatcherref11_Digits_b (retK Tryd.prog Tryd.f55.results.toList R) (rho0 [a0]) w = dispatcherref11_Digits_F a0 w R := by kernel_rfl
theorem dispatcherref11_Digits_calls {a0 : Value} {w : World} {R : Value → World → Prop} (h : dispatcherref11_Digits_F a0 w R) : Calls Tryd.prog 55 #[a0] w fun e w' => ∃ v, e = .returned v ∧ R v w' :=
  Go.X.calls_of_sx (n := 17) (c := dispatcherref11_Digits_b) Tryd.func55 (by kernel_rfl) (by kernel_rfl) (Nat.le_of_ble_eq_true rfl) (by kernel_rfl) (Eq.mpr (dispatcherref11_Digits_eq a0 w R) h)
noncomputable def dispatcherref11_Ints_b : Code := (Tryd.f63.body).getD .skip
noncomputable def dispatcherref11_Ints_L0 : Code := cAt [1, 1, 0, 1, 0, 0] dispatcherref11_Ints_b
noncomputable def dispatcherref11_Ints_R1 : Code := cAt [1, 1, 1] dispatcherref11_Ints_b
noncomputable def dispatcherref11_Ints_R2 : Code := cAt [1, 1, 0, 1, 0, 0, 1, 0, 0, 0] dispatcherref11_Ints_b
noncomputable def dispatcherref11_Ints_R3 : Code := cAt [1, 1, 0, 1, 0, 0, 1, 0, 0, 1] dispatcherref11_Ints_b
noncomputable def dispatcherref11_Ints_R4 : Code := cAt [1, 1, 0, 1, 0, 0, 1, 1] dispatcherref11_Ints_b
noncomputable def dispatcherref11_Ints_L0_F (z : At) (K : Exit → Sl → World → Prop) (ρ : Sl) (w : World) : Prop :=
  IK Tryd.prog .len #[30] 3 [false] [(ρ 0)] w fun x13 w => BK Tryd.prog .lss 3 (.tmp 11) (.tmp 13) (ρ 5) x13 w fun x14 w => CondK x14 (W z Tryd.prog 26 dispatcherref11_Ints_R2 (seqK (sx z Tryd.prog 26 dispatcherref11_Ints_R3 (blkK 1 (seqK (sx z Tryd.prog 26 dispatcherref11_Ints_R4 K) K))) (blkK 1 (seqK (sx z Tryd.prog 26 dispatcherref11_Ints_R4 K) K))) (up (up (up (up ρ 11 (ρ 5)) 12 (ρ 0)) 13 x13) 14 x14) w) (K (.exit 0) (up (up (up (up ρ 11 (ρ 5)) 12 (ρ 0)) 13 x13) 14 x14) w)
theorem dispatcherref11_Ints_L0_eq (z : At) (K : Exit → Sl → World → Prop) (ρ : Sl) (w : World) : sx z Tryd.prog 26 dispatcherref11_Ints_L0 K ρ w = dispatcherref11_Ints_L0_F z K ρ w := by kernel_rfl
theorem dispatcherref11_Ints_L0_ok : dstOk 26 dispatcherref11_Ints_L0 = true := by kernel_rfl
noncomputable def dispatcherref11_Ints_R1_F (z : At) (K : Exit → Sl → World → Prop) (ρ : Sl) (w : World) : Prop :=
  K .ret (up ρ 4 (Value.bool true)) w
theorem dispatcherref11_Ints_R1_eq (z : At) (K : Exit → Sl → World → Prop) (ρ : Sl) (w : World) : sx z Tryd.prog 26 dispatcherref11_Ints_R1 K ρ w = dispatcherref11_Ints_R1_F z K ρ w := by kernel_rfl
noncomputable def dispatcherref11_Ints_R2_ops : Array Oper := opsOf dispatcherref11_Ints_R2
def dispatcherref11_Ints_R2_Q (C : World → Prop) (K : Exit → Sl → World → Prop) (ρ : Sl) : Prop :=
  QK Tryd.prog C (do pure (Next.value (← Instr.indexAt 30 (ρ 0) (ρ 5)))) fun x19 => QK Tryd.prog C (do pure (Next.value (← Instr.loadAt 3 x19))) fun x20 => QK Tryd.prog C (do pure (Next.value (← Instr.indexAt 30 (ρ 1) (ρ 5)))) fun x23 => QK Tryd.prog C (do pure (Next.value (← Instr.loadAt 3 x23))) fun x24 => QK Tryd.prog C (do pure (Next.value (← (do eqGuard BinOp.neq 3 (Operand.tmp 20) (Operand.tmp 24) x20 x24; binOp BinOp.neq 3 x20 x24)))) fun x25 => ∀ w', C w' → K Exit.normal (up (up (up (up (up (up (up (up (up ρ 17 (ρ 0)) 18 (ρ 5)) 19 x19) 20 x20) 21 (ρ 1)) 22 (ρ 5)) 23 x23) 24 x24) 25 x25) w'
theorem dispatcherref11_Ints_R2_quiet {D : List Deferred} (C : World → Prop) {K : Exit → Sl → World → Prop} {ρ : Sl} {w : World} (hC : C { w with drawn := w.drawn + 1 }) (h : dispatcherref11_Ints_R2_Q C K ρ) : W ⟨none, D⟩ Tryd.prog 26 dispatcherref11_Ints_R2 K ρ w := by
  have e : dispatcherref11_Ints_R2 = .region (idOf dispatcherref11_Ints_R2) dispatcherref11_Ints_R2_ops true := by kernel_rfl
  have q : sxq Tryd.prog C dispatcherref11_Ints_R2_ops (fun ρ' => ∀ w', C w' → K .normal ρ' w') dispatcherref11_Ints_R2_ops.toList ρ = dispatcherref11_Ints_R2_Q C K ρ := by kernel_rfl
  rw [e]
  exact W_quiet C (by kernel_rfl) (by kernel_rfl) (by kernel_rfl) hC (Eq.mpr q h)
noncomputable def dispatcherref11_Ints_R3_F (z : At) (K : Exit → Sl → World → Prop) (ρ : Sl) (w : World) : Prop :=
  CondK (ρ 25) (K .ret (up ρ 4 (Value.bool false)) w) (K .normal ρ w)
theorem dispatcherref11_Ints_R3_eq (z : At) (K : Exit → Sl → World → Prop) (ρ : Sl) (w : World) : sx z Tryd.prog 26 dispatcherref11_Ints_R3 K ρ w = dispatcherref11_Ints_R3_F z K ρ w := by kernel_rfl
noncomputable def dispatcherref11_Ints_R4_F (z : At) (K : Exit → Sl → World → Prop) (ρ : Sl) (w : World) : Prop :=
  BK Tryd.prog .add 3 (.tmp 15) (.const (Value.int .i64 1)) (ρ 5) (Value.int .i64 1) w fun x16 w => K .normal (up (up (up ρ 15 (ρ 5)) 16 x16) 5 x16) w
theorem dispatcherref11_Ints_R4_eq (z : At) (K : Exit → Sl → World → Prop) (ρ : Sl) (w : World) : sx z Tryd.prog 26 dispatcherref11_Ints_R4 K ρ w = dispatcherref11_Ints_R4_F z K ρ w := by kernel_rfl
noncomputable def dispatcherref11_Ints_F (a0 a1 : Value) (w : World) (R : Value → World → Prop) : Prop :=
  IK Tryd.prog .len #[30] 3 [false] [a0] w fun x7 w => IK Tryd.prog .len #[30] 3 [false] [a1] w fun x9 w => BK Tryd.prog .neq 3 (.tmp 7) (.tmp 9) x7 x9 w fun x10 w => CondK x10 (R (Value.bool false) w) (W fn_ Tryd.prog 26 (Code.loop dispatcherref11_Ints_L0) (blkK 0 (seqK (sx fn_ Tryd.prog 26 dispatcherref11_Ints_R1 (retK Tryd.prog [ResultVar.tmp 4] R)) (retK Tryd.prog [ResultVar.tmp 4] R))) (up (up (up (up (up (up (up (rho0 [a0, a1]) 4 (Value.bool false)) 6 a0) 7 x7) 8 a1) 9 x9) 10 x10) 5 (Value.int .i64 0)) w)
theorem dispatcherref11_Ints_eq (a0 a1 : Value) (w : World) (R : Value → World → Prop) : sx fn_ Tryd.prog 26 dispatcherref11_Ints_b (retK Tryd.prog Tryd.f63.results.toList R) (rho0 [a0, a1]) w = dispatcherref11_Ints_F a0 a1 w R := by kernel_rfl
theorem dispatcherref11_Ints_calls {a0 a1 : Value} {w : World} {R : Value → World → Prop} (h : dispatcherref11_Ints_F a0 a1 w R) : Calls Tryd.prog 63 #[a0, a1] w fun e w' => ∃ v, e = .returned v ∧ R v w' :=
  Go.X.calls_of_sx (n := 26) (c := dispatcherref11_Ints_b) Tryd.func63 (by kernel_rfl) (by kernel_rfl) (Nat.le_of_ble_eq_true rfl) (by kernel_rfl) (Eq.mpr (dispatcherref11_Ints_eq a0 a1 w R) h)
noncomputable def dispatcherref15_Coll_Part_b : Code := (Tryd.f64.body).getD .skip
noncomputable def dispatcherref15_Coll_Part_L0 : Code := cAt [1, 0, 1, 0, 0] dispatcherref15_Coll_Part_b
noncomputable def dispatcherref15_Coll_Part_R1 : Code := cAt [1, 1] dispatcherref15_Coll_Part_b
noncomputable def dispatcherref15_Coll_Part_R2 : Code := cAt [1, 0, 1, 0, 0, 1, 1] dispatcherref15_Coll_Part_b
noncomputable def dispatcherref15_Coll_Part_R3 : Code := cAt [1, 0, 1, 0, 0, 1, 0, 0, 0, 1] dispatcherref15_Coll_Part_b
noncomputable def dispatcherref15_Coll_Part_R4 : Code := cAt [1, 0, 1, 0, 0, 1, 0, 0, 1] dispatcherref15_Coll_Part_b
noncomputable def dispatcherref15_Coll_Part_L0_F (z : At) (K : Exit → Sl → World → Prop) (ρ : Sl) (w : World) : Prop :=
  NK Tryd.prog (ρ 0) w fun x13 w => VK Tryd.prog (Instr.fieldAt 29 x13 1) w fun x14 w => VK Tryd.prog (Instr.loadAt 27 x14) w fun x15 w => IK Tryd.prog .len #[27] 3 [false] [x15] w fun x16 w => BK Tryd.prog .lss 3 (.tmp 11) (.tmp 16) (ρ 10) x16 w fun x17 w => CondK x17 (NK Tryd.prog (ρ 0) w fun x21 w => VK Tryd.prog (Instr.fieldAt 29 x21 1) w fun x22 w => VK Tryd.prog (Instr.loadAt 27 x22) w fun x23 w => VK Tryd.prog (Instr.indexAt 27 x23 (ρ 10)) w fun x25 w => VK Tryd.prog (Instr.fieldAt 88 x25 0) w fun x26 w => VK Tryd.prog (Instr.fieldAt 32 x26 0) w fun x27 w => VK Tryd.prog (Instr.loadAt 9 x27) w fun x28 w => BK Tryd.prog .neq 9 (.tmp 28) (.tmp 29) x28 (ρ 1) w fun x30 w => MG Tryd.prog x30 false (ρ 0) w fun x32 w => NG Tryd.prog x30 false x32 w fun x33 w => VG Tryd.prog x30 false (Instr.fieldAt 29 x33 1) w fun x34 w => VG Tryd.prog x30 false (Instr.loadAt 27 x34) w fun x35 w => MG Tryd.prog x30 false (ρ 10) w fun x36 w => VG Tryd.prog x30 false (Instr.indexAt 27 x35 x36) w fun x37 w => VG Tryd.prog x30 false (Instr.fieldAt 88 x37 1) w fun x38 w => VG Tryd.prog x30 false (Instr.loadAt 3 x38) w fun x39 w => MG Tryd.prog x30 false (ρ 2) w fun x40 w => BG Tryd.prog x30 false .neq 3 (.tmp 39) (.tmp 40) x39 x40 w fun x41 w => PK Tryd.prog x30 (Value.bool true) x41 w fun x42 w => sx z Tryd.prog 56 dispatcherref15_Coll_Part_R3 (seqK (sx z Tryd.prog 56 dispatcherref15_Coll_Part_R4 (blkK 1 (seqK (sx z Tryd.prog 56 dispatcherref15_Coll_Part_R2 K) K))) (blkK 1 (seqK (sx z Tryd.prog 56 dispatcherref15_Coll_Part_R2 K) K))) (up (up (up (up (up (up (up (up (up (up (up (up (up (up (up (up (up (up (up (up (up (up (up (up (up (up (up (up (up (up ρ 11 (ρ 10)) 12 (ρ 0)) 13 x13) 14 x14) 15 x15) 16 x16) 17 x17) 20 (ρ 0)) 21 x21) 22 x22) 23 x23) 24 (ρ 10)) 25 x25) 26 x26) 27 x27) 28 x28) 29 (ρ 1)) 30 x30) 31 x30) 32 x32) 33 x33) 34 x34) 35 x35) 36 x36) 37 x37) 38 x38) 39 x39) 40 x40) 41 x41) 42 x42) w) (K (.exit 0) (up (up (up (up (up (up (up ρ 11 (ρ 10)) 12 (ρ 0)) 13 x13) 14 x14) 15 x15) 16 x16) 17 x17) w)
theorem dispatcherref15_Coll_Part_L0_eq (z : At) (K : Exit → Sl → World → Prop) (ρ : Sl) (w : World) : sx z Tryd.prog 56 dispatcherref15_Coll_Part_L0 K ρ w = dispatcherref15_Coll_Part_L0_F z K ρ w := by kernel_rfl
theorem dispatcherref15_Coll_Part_L0_ok : dstOk 56 dispatcherref15_Coll_Part_L0 = true := by kernel_rfl
noncomputable def dispatcherref15_Coll_Part_R1_F (z : At) (K : Exit → Sl → World → Prop) (ρ : Sl) (w : World) : Prop :=
  VK Tryd.prog (Instr.build 34 [].toArray) w fun x55 w => UK Tryd.prog (Instr.storeAt 34 (ρ 8) x55) w fun _ w => K .ret (up (up ρ 55 x55) 9 (Value.bool false)) w
theorem dispatcherref15_Coll_Part_R1_eq (z : At) (K : Exit → Sl → World → Prop) (ρ : Sl) (w : World) : sx z Tryd.prog 56 dispatcherref15_Coll_Part_R1 K ρ w = dispatcherref15_Coll_Part_R1_F z K ρ w := by kernel_rfl
noncomputable def dispatcherref15_Coll_Part_R2_F (z : At) (K : Exit → Sl → World → Prop) (ρ : Sl) (w : World) : Prop :=
  BK Tryd.prog .add 3 (.tmp 18) (.const (Value.int .i64 1)) (ρ 10) (Value.int .i64 1) w fun x19 w => K .normal (up (up (up ρ 18 (ρ 10)) 19 x19) 10 x19) w
theorem dispatcherref15_Coll_Part_R2_eq (z : At) (K : Exit → Sl → World → Prop) (ρ : Sl) (w : World) : sx z Tryd.prog 56 dispatcherref15_Coll_Part_R2 K ρ w = dispatcherref15_Coll_Part_R2_F z K ρ w := by kernel_rfl
noncomputable def dispatcherref15_Coll_Part_R3_F (z : At) (K : Exit → Sl → World → Prop) (ρ : Sl) (w : World) : Prop :=
  CondK (ρ 42) (K (.exit 1) ρ w) (K .normal ρ w)
theorem dispatcherref15_Coll_Part_R3_eq (z : At) (K : Exit → Sl → World → Prop) (ρ : Sl) (w : World) : sx z Tryd.prog 56 dispatcherref15_Coll_Part_R3 K ρ w = dispatcherref15_Coll_Part_R3_F z K ρ w := by kernel_rfl
noncomputable def dispatcherref15_Coll_Part_R4_F (z : At) (K : Exit → Sl → World → Prop) (ρ : Sl) (w : World) : Prop :=
  BK Tryd.prog .eql 3 (.tmp 43) (.const (Value.int .i64 0)) (ρ 3) (Value.int .i64 0) w fun x44 w => CondK x44 (NK Tryd.prog (ρ 0) w fun x46 w => VK Tryd.prog (Instr.fieldAt 29 x46 1) w fun x47 w => VK Tryd.prog (Instr.loadAt 27 x47) w fun x48 w => VK Tryd.prog (Instr.indexAt 27 x48 (ρ 10)) w fun x50 w => VK Tryd.prog (Instr.fieldAt 88 x50 2) w fun x51 w => VK Tryd.prog (Instr.loadAt 34 x51) w fun x52 w => UK Tryd.prog (Instr.storeAt 34 (ρ 8) x52) w fun _ w => K .ret (up (up (up (up (up (up (up (up (up (up (up ρ 43 (ρ 3)) 44 x44) 45 (ρ 0)) 46 x46) 47 x47) 48 x48) 49 (ρ 10)) 50 x50) 51 x51) 52 x52) 9 (Value.bool true)) w) (BK Tryd.prog .sub 3 (.tmp 53) (.const (Value.int .i64 1)) (ρ 3) (Value.int .i64 1) w fun x54 w => K .normal (up (up (up (up (up ρ 43 (ρ 3)) 44 x44) 53 (ρ 3)) 54 x54) 3 x54) w)
theorem dispatcherref15_Coll_Part_R4_eq (z : At) (K : Exit → Sl → World → Prop) (ρ : Sl) (w : World) : sx z Tryd.prog 56 dispatcherref15_Coll_Part_R4 K ρ w = dispatcherref15_Coll_Part_R4_F z K ρ w := by kernel_rfl
noncomputable def dispatcherref15_Coll_Part_F (a0 a1 a2 a3 : Value) (w : World) (R : Value → World → Prop) : Prop :=
  VK Tryd.prog (Instr.alloc 34 true (.tuple #[])) w fun x8 w => W fn_ Tryd.prog 56 (Code.loop dispatcherref15_Coll_Part_L0) (blkK 0 (seqK (sx fn_ Tryd.prog 56 dispatcherref15_Coll_Part_R1 (retK Tryd.prog [ResultVar.cell 8 34, ResultVar.tmp 9] R)) (retK Tryd.prog [ResultVar.cell 8 34, ResultVar.tmp 9] R))) (up (up (up (rho0 [a0, a1, a2, a3]) 8 x8) 9 (Value.bool false)) 10 (Value.int .i64 0)) w
theorem dispatcherref15_Coll_Part_eq (a0 a1 a2 a3 : Value) (w : World) (R : Value → World → Prop) : sx fn_ Tryd.prog 56 dispatcherref15_Coll_Part_b (retK Tryd.prog Tryd.f64.results.toList R) (rho0 [a0, a1, a2, a3]) w = dispatcherref15_Coll_Part_F a0 a1 a2 a3 w R := by kernel_rfl
theorem dispatcherref15_Coll_Part_calls {a0 a1 a2 a3 : Value} {w : World} {R : Value → World → Prop} (h : dispatcherref15_Coll_Part_F a0 a1 a2 a3 w R) : Calls Tryd.prog 64 #[a0, a1, a2, a3] w fun e w' => ∃ v, e = .returned v ∧ R v w' :=
  Go.X.calls_of_sx (n := 56) (c := dispatcherref15_Coll_Part_b) Tryd.func64 (by kernel_rfl) (by kernel_rfl) (Nat.le_of_ble_eq_true rfl) (by kernel_rfl) (Eq.mpr (dispatcherref15_Coll_Part_eq a0 a1 a2 a3 w R) h)
end Go.Proofs.YtandbmnhghmcgaaDoor.XG
set_option linter.unusedVariables false
set_option linter.unusedSimpArgs false
set_option maxRecDepth 8000
namespace Go.Proofs.YtandbmnhghmcgaaDoor.Col
open Go Go.X Go.RowKit Go.Proofs.YtandbmnhghmcgaaDoor.XF Go.Proofs.YtandbmnhghmcgaaDoor.XG Go.Proofs.YtandbmnhghmcgaaDoor.XK
section
variable {w : World}
theorem Ints_ok {v u : Value} {a b : List Int} (ha : RR w v a) (hb : RR w u b) (hl : a.length ≤ maxLen) : Rt Tryd.prog 63 #[v, u] w fun x w' => x = .bool (decide (a = b)) ∧ Mod none_ w w' := by
  have hl' : a.length ≤ 9223372036854775807 := hl
  refine dispatcherref11_Ints_calls ?_
  unfold dispatcherref11_Ints_F
  obtain ⟨A, c, es, _⟩ := reads_cap ha
  obtain ⟨A2, c2, es2, _⟩ := reads_cap hb
  rw [es, len_sl vIs, ← es, es2, len_sl vIs, ← es2, BK_neq]
  by_cases hlen : a.length = b.length
  · rw [show ((a.length : Int) != (b.length : Int)) = false by rw [hlen]; simp]
    refine condF ?_
    refine W_loop dispatcherref11_Ints_L0_ok (fun ρ w' => ∃ i : Nat, i ≤ a.length ∧ ρ 5 = .int .i64 i ∧ ρ 0 = v ∧ ρ 1 = u ∧ a.take i = b.take i ∧ Mod none_ w w') (fun ρ _ => a.length - (intOf (ρ 5)).toNat)
      ⟨0, Nat.zero_le _, rfl, rfl, rfl, by simp, Mod.refl _ _⟩ ?_
    rintro ρ w1 ⟨i, hi, e5, e0, e1, heq, hm⟩
    rw [dispatcherref11_Ints_L0_eq]; unfold dispatcherref11_Ints_L0_F
    rw [e5, e0, es, len_sl vIs, ← es, BK_lss]
    by_cases hlt : i < a.length
    · rw [decide_eq_true (by omega)]
      refine condT ?_
      have hx : a[i]? = some a[i] := List.getElem?_eq_getElem hlt
      have hy : b[i]? = some b[i] := List.getElem?_eq_getElem (by omega)
      have ta : a.take (i + 1) = a.take i ++ [a[i]] := by rw [List.take_add_one, hx]; rfl
      have tb : b.take (i + 1) = b.take i ++ [b[i]] := by rw [List.take_add_one, hy]; rfl
      generalize a[i] = x at *
      generalize b[i] = y at *
      obtain ⟨p1, r1, l1⟩ := ixR ha hx
      obtain ⟨p2, r2, l2⟩ := ixR hb hy
      refine dispatcherref11_Ints_R2_quiet (D := []) (fun w' => Mod none_ w w') (hm.trans ((Mod.refl _ w1).drawn _)) ?_
      unfold dispatcherref11_Ints_R2_Q
      simp only [sq_n, sq_x, sq_r, bk_n, bk_r, bk_x, rt_r, rt_n, rs_0, rs_t, pk_1, pk_2, up_at, reduceIte, Nat.reduceEqDiff, e0, e1, e5]
      refine QV_of (fun w' _ => r1 w') (QV_of (fun w' hw => l1 w' hw) (QV_of (fun w' _ => r2 w') (QV_of (fun w' hw => l2 w' hw) ?_)))
      refine Qneq ?_
      intro w' hw
      try rw [sq_n]
      rw [dispatcherref11_Ints_R3_eq]; unfold dispatcherref11_Ints_R3_F
      simp only [sq_n, sq_x, sq_r, bk_n, bk_r, bk_x, rt_r, rt_n, rs_0, rs_t, pk_1, pk_2, up_at, reduceIte, Nat.reduceEqDiff]
      refine caseC (fun q => ?_) (fun q => ?_)
      · refine ⟨?_, hw⟩
        have hne : a ≠ b := fun z => by
          rw [z, hy] at hx
          have : x ≠ y := by simpa using q
          exact this (Option.some.inj hx).symm
        rw [decide_eq_false hne]
        try rfl
      · have hxy : x = y := by simpa using q
        try rw [bk_n, sq_n]
        rw [dispatcherref11_Ints_R4_eq]; unfold dispatcherref11_Ints_R4_F
        simp only [sq_n, sq_x, sq_r, bk_n, bk_r, bk_x, rt_r, rt_n, rs_0, rs_t, pk_1, pk_2, up_at, reduceIte, Nat.reduceEqDiff, e5]
        rw [BK_add, wrap_i (by omega) (by omega)]
        refine ⟨⟨i + 1, hlt, rfl, e0, e1, by rw [ta, tb, heq, hxy], hw⟩, ?_⟩
        simp only [sq_n, sq_x, sq_r, bk_n, bk_r, bk_x, rt_r, rt_n, rs_0, rs_t, pk_1, pk_2, up_at, reduceIte, Nat.reduceEqDiff, intOf]; omega
    · obtain rfl : i = a.length := by omega
      rw [decide_eq_false (by omega)]
      refine condF ?_
      rw [sq_x, bk_x, sq_n, dispatcherref11_Ints_R1_eq]; unfold dispatcherref11_Ints_R1_F
      refine ⟨?_, hm⟩
      rw [List.take_length, hlen, List.take_length] at heq
      rw [decide_eq_true heq]; rfl
  · rw [show ((a.length : Int) != (b.length : Int)) = true by rw [bne_iff_ne]; omega]
    refine condT ⟨?_, Mod.refl _ _⟩
    rw [decide_eq_false fun z => hlen (by rw [z])]
theorem SameD_ok {k1 k2 : Ky} {v u : Value} {a b : List Int} (ha : RR w v a) (hb : RR w u b) (hl : a.length ≤ maxLen) : Rt Tryd.prog 42 #[grpV k1 v, grpV k2 u] w fun x w' => x = .bool (decide (k1 = k2) && decide (a = b)) ∧ Mod none_ w w' := by
  refine dispatcherref11_Same_calls ?_
  unfold dispatcherref11_Same_F
  refine box_k (cs := #[strV k1, v]) rfl fun w1 hb1 hm1 hz1 => ?_
  refine box_k (cs := #[strV k2, u]) rfl fun w2 hb2 hm2 hz2 => ?_
  have hb1' := hm2.blk hb1 id
  have hm := hm1.trans hm2
  simp only [↓(fG0 hb1').e, ↓(fG0 hb2).e]
  by_cases hk : k1 = k2
  · unfold strV
    rw [SEQt (by rw [hk])]
    simp only [↓VG_u, ↓UG_u, ↓MG_u, ↓NG_u, ↓PG_u, ↓BG_u, ↓CG_u, ↓IG_u, ↓VGtt, ↓VGtf, ↓VGft, ↓VGff, ↓UGtt, ↓UGtf, ↓UGft, ↓UGff, ↓MGtt, ↓MGtf, ↓MGft, ↓MGff, ↓NGtt, ↓NGtf, ↓NGft, ↓NGff, ↓PGtt, ↓PGtf, ↓PGft, ↓PGff, ↓BGtt, ↓BGtf, ↓BGft, ↓BGff, ↓CGtt, ↓CGtf, ↓CGft, ↓CGff, ↓IGtt, ↓IGtf, ↓IGft, ↓IGff, ↓PKt, ↓PKf, ↓CDt, ↓CDf, ↓NOTt, ↓NOTf, ↓NK_ptr, ↓(fG1 hb1').e, ↓(fG1 hb2).e]
    refine CK_st Tryd.func63 rfl rfl (Ints_ok (ha.calm hm) (hb.calm hm) hl) ?_
    rintro _ w3 ⟨rfl, hm3⟩
    rw [decide_eq_true hk, Bool.true_and]
    exact ⟨rfl, hm.trans hm3⟩
  · unfold strV
    rw [SEQf (fun q => hk (by simpa using congrArg (fun b : ByteArray => b.data.toList) q))]
    simp only [↓VG_u, ↓UG_u, ↓MG_u, ↓NG_u, ↓PG_u, ↓BG_u, ↓CG_u, ↓IG_u, ↓VGtt, ↓VGtf, ↓VGft, ↓VGff, ↓UGtt, ↓UGtf, ↓UGft, ↓UGff, ↓MGtt, ↓MGtf, ↓MGft, ↓MGff, ↓NGtt, ↓NGtf, ↓NGft, ↓NGff, ↓PGtt, ↓PGtf, ↓PGft, ↓PGff, ↓BGtt, ↓BGtf, ↓BGft, ↓BGff, ↓CGtt, ↓CGtf, ↓CGft, ↓CGff, ↓IGtt, ↓IGtf, ↓IGft, ↓IGff, ↓PKt, ↓PKf, ↓CDt, ↓CDf, ↓NOTt, ↓NOTf, ↓NK_ptr]
    rw [decide_eq_false hk, Bool.false_and]
    exact ⟨rfl, hm⟩
theorem bG0 : Tryd.prog.built tG [] = some #[strV [], nilS] := by kernel_rfl
end
end Go.Proofs.YtandbmnhghmcgaaDoor.Col
set_option linter.unusedVariables false
set_option linter.unusedSimpArgs false
set_option maxRecDepth 8000
namespace Go.Proofs.YtandbmnhghmcgaaDoor.Col
open Go Go.X Go.RowKit Go.Proofs.YtandbmnhghmcgaaDoor.XF Go.Proofs.YtandbmnhghmcgaaDoor.XG Go.Proofs.YtandbmnhghmcgaaDoor.XI Go.Proofs.YtandbmnhghmcgaaDoor.XK
def TdR (w : World) (v : Value) (t : Td) : Prop := ∃ row rks, v = .agg (tdCells t row rks) ∧ RR w row t.row ∧ RR w rks t.ranks
section
variable {w : World} {p : Nat} {loose : Bool} {L : List Br} {V : CV}
theorem TdAt.R {B : Nat} {v : Value} {t : Td} (h : TdAt w B v t) : TdR w v t := by
  obtain ⟨row, rks, rfl, h1, h2⟩ := h
  exact ⟨row, rks, rfl, reads_of_owns h1, reads_of_owns h2⟩
theorem TdR.calm {w' : World} {v : Value} {t : Td} (h : TdR w v t) (hm : Mod none_ w w') : TdR w' v t := by
  obtain ⟨row, rks, rfl, h1, h2⟩ := h
  exact ⟨row, rks, rfl, h1.calm hm, h2.calm hm⟩
theorem CAt.notT (h : CAt w p loose L V) {t : TypeId} (h1 : t ≠ tC) (h2 : t ≠ tRo) (h3 : t ≠ tPts) (h4 : t ≠ tPt) {b : Nat} (hb : CF p V b) : ¬ isT t w b := by
  intro q
  rcases hb with rfl | rfl | ⟨e, he, hb⟩
  · exact isT_ne q ⟨_, _, h.blk⟩ h1
  · obtain ⟨cs, fr, q⟩ := q
    have := h.map
    unfold IsMap at this
    rw [this] at q
    injection q with q
    cases q
  · rcases (h.ro e he).blks hb with z | z | z
    · exact isT_ne q z h2
    · exact isT_ne q z h3
    · exact isT_ne q z h4
def NoC (w : World) (v : Value) : Prop := v = .pointer none ∨ ∃ q, v = .pointer (some ⟨q, 0, none⟩) ∧ w.heap[q]? = some (.cells #[.bool false, .map none] tC (0, 0))
theorem NoC.calm {w' : World} {v : Value} (h : NoC w v) (hm : Mod none_ w w') : NoC w' v := h.imp id fun ⟨q, e, hb⟩ => ⟨q, e, hm.blk hb id⟩
end
end Go.Proofs.YtandbmnhghmcgaaDoor.Col
set_option linter.unusedVariables false
set_option linter.unusedSimpArgs false
set_option maxRecDepth 8000
namespace Go.X
open Go Go.RowKit
structure Ac where
  key : Ky
  rv : Value
  ranks : List Int
  rank : Int
  p : Pt
  copy : Bool
def Ac.enc (a : Ac) : List Value := [strV a.key, a.rv, .int .i64 a.rank] ++ a.p.enc ++ [.bool a.copy]
theorem Ac.enc_len (a : Ac) : a.enc.length = 9 + 1 := rfl
def Ac.br (a : Ac) : Br := ⟨a.key, a.ranks, a.rank, a.p⟩
theorem elIx {P : Program} {w : World} {t e : TypeId} {sz : Nat} (hu : P.underlying t = some (.slice e)) (hc : P.cellsOf e = sz + 1) {α : Type} {enc : α → List Value} (hl : ∀ a, (enc a).length = sz + 1) {l : List α} {v : Value} (h : reads w (sz + 1) v l.length (l.flatMap enc)) {i : Nat} {a : α} (hi : l[i]? = some a) :
    ∃ g : Addr, (∀ w', (Instr.indexAt t v (.int .i64 (i : Int))).run P w' = .ok (.pointer (some g)) w') ∧ ∀ w', Mod none_ w w' → ∀ j c, (enc a)[j]? = some c → w'.cell? (g.add j) = some c := by
  have hil := (List.getElem?_eq_some_iff.1 hi).1
  obtain ⟨_, A, c, es, hnc, hr⟩ := id h
  have h0 : (0 : Nat) < sz + 1 := by omega
  obtain ⟨c0, hc0⟩ : ∃ c0, (enc a)[0]? = some c0 := ⟨_, List.getElem?_eq_getElem (by rw [hl]; exact h0)⟩
  obtain ⟨a0, ha, _⟩ := hr (i * (sz + 1) + 0) c0 (by rw [fl_get hl hi h0]; exact hc0)
  subst es ha
  refine ⟨a0.add (i * (sz + 1)), fun w' => ?_, fun w' hw j x hj => ?_⟩
  · rw [run_ixa hu hc (by omega) (by omega) w']
    rfl
  · have hjl : j < sz + 1 := by have := (List.getElem?_eq_some_iff.1 hj).1; rw [hl] at this; exact this
    obtain ⟨_, A, c, es, _, hc'⟩ := reads_mod h hw (fun _ _ _ => id)
    cases es
    obtain ⟨b, hb, hcell⟩ := hc' (i * (sz + 1) + j) x (by rw [fl_get hl hi hjl]; exact hj)
    cases hb
    rw [add_add]
    exact hcell
def AcAt (w : World) (g : Addr) (a : Ac) : Prop := ∀ j c, a.enc[j]? = some c → w.cell? (g.add j) = some c
structure Acts (w : World) (v : Value) (l : List Ac) : Prop where
  row : reads w (9 + 1) v l.length (l.flatMap Ac.enc)
  rk : ∀ a ∈ l, RR w a.rv a.ranks
theorem Acts.calm {w w' : World} {v : Value} {l : List Ac} (h : Acts w v l) (hm : Mod none_ w w') : Acts w' v l := ⟨reads_mod h.row hm (fun _ _ _ => id), fun a ha => (h.rk a ha).calm hm⟩
structure Small (l : List Ac) : Prop where
  len : l.length ≤ 80
  rk : ∀ a ∈ l, a.ranks.length ≤ 8
  key : ∀ a ∈ l, a.key.length ≤ 200
end Go.X
namespace Go.Proofs.YtandbmnhghmcgaaDoor.Col
open Go Go.X Go.RowKit Go.Proofs.YtandbmnhghmcgaaDoor.XF Go.Proofs.YtandbmnhghmcgaaDoor.XG Go.Proofs.YtandbmnhghmcgaaDoor.XI Go.Proofs.YtandbmnhghmcgaaDoor.XK
abbrev tAc : TypeId := 36
abbrev tAcs : TypeId := 22
theorem vAcs : Tryd.prog.underlying tAcs = some (.slice tAc) := Tryd.underlying22
theorem cAc : Tryd.prog.cellsOf tAc = 9 + 1 := by kernel_rfl
theorem iAc : (Tryd.prog.info? tAc).map (·.size) = some 10 := by kernel_rfl
theorem oAc0 : fieldOff Tryd.prog tAc 0 = some 0 := by kernel_rfl
theorem oAc1 : fieldOff Tryd.prog tAc 1 = some 2 := by kernel_rfl
theorem oAc2 : fieldOff Tryd.prog tAc 2 = some 3 := by kernel_rfl
theorem oAc3 : fieldOff Tryd.prog tAc 3 = some 9 := by kernel_rfl
section
variable {w : World} {g : Addr} {a : Ac}
theorem fC0 (h : AcAt w g a) : FO Tryd.prog w tAc 0 0 g tG (grpV a.key a.rv) := ⟨oAc0, fun K => by
  refine VK_eq_of (run_ldA (cs := [strV a.key, a.rv]) Tryd.underlying32 rfl (by kernel_rfl) fun j v hj => ?_)
  rw [add_add]
  match j, hj with
  | 0, hj => exact h 0 v hj
  | 1, hj => exact h 1 v hj
  | n + 2, hj => simp at hj⟩
theorem fC1 (h : AcAt w g a) : FO Tryd.prog w tAc 1 2 g tI (.int .i64 a.rank) := FO.mk' oAc1 vI rfl (h 2 _ rfl)
theorem fC2 (h : AcAt w g a) : FO Tryd.prog w tAc 2 3 g tPt a.p.v := ⟨oAc2, fun K => by
  refine VK_eq_of (run_ldA (cs := a.p.enc) Tryd.underlying34 rfl (by kernel_rfl) fun j v hj => ?_)
  rw [add_add]
  have hjl := (List.getElem?_eq_some_iff.1 hj).1
  refine h (3 + j) v ?_
  unfold Ac.enc
  rw [List.getElem?_append_left (by simp only [List.length_append, List.length_cons, List.length_nil]; omega), List.getElem?_append_right (by simp)]
  simpa using hj⟩
theorem fC3 (h : AcAt w g a) : FO Tryd.prog w tAc 3 9 g 4 (.bool a.copy) := FO.mk' oAc3 vB rfl (h 9 _ rfl)
theorem fCr (h : AcAt w g a) : FO Tryd.prog w tG 1 1 (g.add 0) tIs a.rv := FO.mk' (by kernel_rfl) vIs rfl (by rw [add_add]; exact h 1 _ rfl)
theorem acAt_blk {b : Nat} (h : w.heap[b]? = some (.cells a.enc.toArray tAc (0, 0))) : AcAt w ⟨b, 0, none⟩ a := fun j c hj => by
  rw [add_pl, cell_blk h, Nat.zero_add]
  simpa using hj
theorem acts_at {v : Value} {l : List Ac} (h : Acts w v l) {i : Nat} {a : Ac} (hi : l[i]? = some a) : ∃ g : Addr, (∀ w', (Instr.indexAt tAcs v (.int .i64 (i : Int))).run Tryd.prog w' = .ok (.pointer (some g)) w') ∧ ∀ w', Mod none_ w w' → AcAt w' g a :=
  elIx vAcs cAc Ac.enc_len h.row hi
theorem Great11_ok {key : Ky} {rv : Value} {r : List Int} (h : RR w rv r) : Rt Tryd.prog 33 #[grpV key rv] w fun v w' => ∃ b, v = .bool b ∧ (b = false → key.length ≤ 200) ∧ Mod none_ w w' := by
  refine dispatcherlaw11_Great_calls ?_
  unfold dispatcherlaw11_Great_F
  refine box_k (cs := #[strV key, rv]) rfl fun w1 hb1 hm1 hz1 => ?_
  simp only [↓(fG1 hb1).e]
  obtain ⟨A, c, es, _⟩ := reads_cap h
  rw [es, len_sl vIs]
  by_cases c1 : (80 : Int) < r.length
  · simp only [↓VG_u, ↓UG_u, ↓MG_u, ↓NG_u, ↓PG_u, ↓BG_u, ↓CG_u, ↓IG_u, ↓VGtt, ↓VGtf, ↓VGft, ↓VGff, ↓UGtt, ↓UGtf, ↓UGft, ↓UGff, ↓MGtt, ↓MGtf, ↓MGft, ↓MGff, ↓NGtt, ↓NGtf, ↓NGft, ↓NGff, ↓PGtt, ↓PGtf, ↓PGft, ↓PGff, ↓BGtt, ↓BGtf, ↓BGft, ↓BGff, ↓CGtt, ↓CGtf, ↓CGft, ↓CGff, ↓IGtt, ↓IGtf, ↓IGft, ↓IGff, ↓PKt, ↓PKf, ↓CDt, ↓CDf, ↓NOTt, ↓NOTf, ↓NK_ptr, ↓GTt c1]
    exact ⟨true, rfl, fun q => by simp at q, hm1⟩
  · simp only [↓VG_u, ↓UG_u, ↓MG_u, ↓NG_u, ↓PG_u, ↓BG_u, ↓CG_u, ↓IG_u, ↓VGtt, ↓VGtf, ↓VGft, ↓VGff, ↓UGtt, ↓UGtf, ↓UGft, ↓UGff, ↓MGtt, ↓MGtf, ↓MGft, ↓MGff, ↓NGtt, ↓NGtf, ↓NGft, ↓NGff, ↓PGtt, ↓PGtf, ↓PGft, ↓PGff, ↓BGtt, ↓BGtf, ↓BGft, ↓BGff, ↓CGtt, ↓CGtf, ↓CGft, ↓CGff, ↓IGtt, ↓IGtf, ↓IGft, ↓IGff, ↓PKt, ↓PKf, ↓CDt, ↓CDf, ↓NOTt, ↓NOTf, ↓NK_ptr, ↓GTf (show (r.length : Int) ≤ 80 by omega), ↓(fG0 hb1).e]
    unfold strV
    rw [len_str vS]
    have hsz : (⟨key.toArray⟩ : ByteArray).size = key.length := by simp [ByteArray.size]
    rw [hsz]
    by_cases c2 : (200 : Int) < key.length
    · simp only [↓VG_u, ↓UG_u, ↓MG_u, ↓NG_u, ↓PG_u, ↓BG_u, ↓CG_u, ↓IG_u, ↓VGtt, ↓VGtf, ↓VGft, ↓VGff, ↓UGtt, ↓UGtf, ↓UGft, ↓UGff, ↓MGtt, ↓MGtf, ↓MGft, ↓MGff, ↓NGtt, ↓NGtf, ↓NGft, ↓NGff, ↓PGtt, ↓PGtf, ↓PGft, ↓PGff, ↓BGtt, ↓BGtf, ↓BGft, ↓BGff, ↓CGtt, ↓CGtf, ↓CGft, ↓CGff, ↓IGtt, ↓IGtf, ↓IGft, ↓IGff, ↓PKt, ↓PKf, ↓CDt, ↓CDf, ↓NOTt, ↓NOTf, ↓NK_ptr, ↓GTt c2]
      exact ⟨true, rfl, fun q => by simp at q, hm1⟩
    · simp only [↓VG_u, ↓UG_u, ↓MG_u, ↓NG_u, ↓PG_u, ↓BG_u, ↓CG_u, ↓IG_u, ↓VGtt, ↓VGtf, ↓VGft, ↓VGff, ↓UGtt, ↓UGtf, ↓UGft, ↓UGff, ↓MGtt, ↓MGtf, ↓MGft, ↓MGff, ↓NGtt, ↓NGtf, ↓NGft, ↓NGff, ↓PGtt, ↓PGtf, ↓PGft, ↓PGff, ↓BGtt, ↓BGtf, ↓BGft, ↓BGff, ↓CGtt, ↓CGtf, ↓CGft, ↓CGff, ↓IGtt, ↓IGtf, ↓IGft, ↓IGff, ↓PKt, ↓PKf, ↓CDt, ↓CDf, ↓NOTt, ↓NOTf, ↓NK_ptr, ↓GTf (show (key.length : Int) ≤ 200 by omega)]
      exact ⟨false, rfl, fun _ => by omega, hm1⟩
theorem Great_ok {v : Value} {l : List Ac} (h : Acts w v l) : Rt Tryd.prog 10 #[v] w fun u w' => ∃ b, u = .bool b ∧ (b = false → Small l) ∧ Mod none_ w w' := by
  refine dispatcherlaw15_Great_calls ?_
  unfold dispatcherlaw15_Great_F
  obtain ⟨A, c, es, _⟩ := reads_cap h.row
  have ev := es
  rw [es, len_sl vAcs, ← ev]
  by_cases c1 : (80 : Int) < l.length
  · simp only [↓VG_u, ↓UG_u, ↓MG_u, ↓NG_u, ↓PG_u, ↓BG_u, ↓CG_u, ↓IG_u, ↓VGtt, ↓VGtf, ↓VGft, ↓VGff, ↓UGtt, ↓UGtf, ↓UGft, ↓UGff, ↓MGtt, ↓MGtf, ↓MGft, ↓MGff, ↓NGtt, ↓NGtf, ↓NGft, ↓NGff, ↓PGtt, ↓PGtf, ↓PGft, ↓PGff, ↓BGtt, ↓BGtf, ↓BGft, ↓BGff, ↓CGtt, ↓CGtf, ↓CGft, ↓CGff, ↓IGtt, ↓IGtf, ↓IGft, ↓IGff, ↓PKt, ↓PKf, ↓CDt, ↓CDf, ↓NOTt, ↓NOTf, ↓NK_ptr, ↓GTt c1]
    exact ⟨true, rfl, fun q => by simp at q, Mod.refl _ _⟩
  simp only [↓VG_u, ↓UG_u, ↓MG_u, ↓NG_u, ↓PG_u, ↓BG_u, ↓CG_u, ↓IG_u, ↓VGtt, ↓VGtf, ↓VGft, ↓VGff, ↓UGtt, ↓UGtf, ↓UGft, ↓UGff, ↓MGtt, ↓MGtf, ↓MGft, ↓MGff, ↓NGtt, ↓NGtf, ↓NGft, ↓NGff, ↓PGtt, ↓PGtf, ↓PGft, ↓PGff, ↓BGtt, ↓BGtf, ↓BGft, ↓BGff, ↓CGtt, ↓CGtf, ↓CGft, ↓CGff, ↓IGtt, ↓IGtf, ↓IGft, ↓IGff, ↓PKt, ↓PKf, ↓CDt, ↓CDf, ↓NOTt, ↓NOTf, ↓NK_ptr, ↓GTf (show (l.length : Int) ≤ 80 by omega)]
  refine W_loop dispatcherlaw15_Great_L0_ok (fun ρ w' => ∃ i : Nat, i ≤ l.length ∧ ρ 3 = .int .i64 i ∧ ρ 0 = v ∧ (∀ a ∈ l.take i, a.ranks.length ≤ 8 ∧ a.key.length ≤ 200) ∧ Mod none_ w w') (fun ρ _ => l.length - (intOf (ρ 3)).toNat)
    ⟨0, Nat.zero_le _, rfl, rfl, by simp, Mod.refl _ _⟩ ?_
  rintro ρ w1 ⟨i, hi, e3, e0, hall, hm⟩
  rw [dispatcherlaw15_Great_L0_eq]; unfold dispatcherlaw15_Great_L0_F
  rw [e3, e0, ev, len_sl vAcs, ← ev, BK_lss]
  by_cases hlt : i < l.length
  · rw [decide_eq_true (by omega)]
    refine condT ?_
    have hx : l[i]? = some l[i] := List.getElem?_eq_getElem hlt
    have hmem : l[i] ∈ l := List.getElem_mem hlt
    have etk : l.take (i + 1) = l.take i ++ [l[i]] := by rw [List.take_add_one, hx]; rfl
    generalize l[i] = a at *
    obtain ⟨g, hix, hat⟩ := acts_at h hx
    refine VK_of (hix _) ?_
    simp only [↓(fC0 (hat _ hm)).e]
    refine CK_st Tryd.func33 rfl rfl (Great11_ok (key := a.key) ((h.rk a hmem).calm hm)) ?_
    rintro _ w2 ⟨b, rfl, hb, hm2⟩
    have hm02 := hm.trans hm2
    cases b with
    | true =>
      simp only [↓VG_u, ↓UG_u, ↓MG_u, ↓NG_u, ↓PG_u, ↓BG_u, ↓CG_u, ↓IG_u, ↓VGtt, ↓VGtf, ↓VGft, ↓VGff, ↓UGtt, ↓UGtf, ↓UGft, ↓UGff, ↓MGtt, ↓MGtf, ↓MGft, ↓MGff, ↓NGtt, ↓NGtf, ↓NGft, ↓NGff, ↓PGtt, ↓PGtf, ↓PGft, ↓PGff, ↓BGtt, ↓BGtf, ↓BGft, ↓BGff, ↓CGtt, ↓CGtf, ↓CGft, ↓CGff, ↓IGtt, ↓IGtf, ↓IGft, ↓IGff, ↓PKt, ↓PKf, ↓CDt, ↓CDf, ↓NOTt, ↓NOTf, ↓NK_ptr]
      exact ⟨true, rfl, fun q => by simp at q, hm02⟩
    | false =>
      simp only [↓VG_u, ↓UG_u, ↓MG_u, ↓NG_u, ↓PG_u, ↓BG_u, ↓CG_u, ↓IG_u, ↓VGtt, ↓VGtf, ↓VGft, ↓VGff, ↓UGtt, ↓UGtf, ↓UGft, ↓UGff, ↓MGtt, ↓MGtf, ↓MGft, ↓MGff, ↓NGtt, ↓NGtf, ↓NGft, ↓NGff, ↓PGtt, ↓PGtf, ↓PGft, ↓PGff, ↓BGtt, ↓BGtf, ↓BGft, ↓BGff, ↓CGtt, ↓CGtf, ↓CGft, ↓CGff, ↓IGtt, ↓IGtf, ↓IGft, ↓IGff, ↓PKt, ↓PKf, ↓CDt, ↓CDf, ↓NOTt, ↓NOTf, ↓NK_ptr]
      refine VK_of (hix _) ?_
      rw [fo oAc0]
      simp only [↓(fCr (hat _ hm02)).e]
      obtain ⟨A', c', es', _⟩ := reads_cap (h.rk a hmem)
      rw [es', len_sl vIs]
      by_cases c2 : (8 : Int) < a.ranks.length
      · simp only [↓VG_u, ↓UG_u, ↓MG_u, ↓NG_u, ↓PG_u, ↓BG_u, ↓CG_u, ↓IG_u, ↓VGtt, ↓VGtf, ↓VGft, ↓VGff, ↓UGtt, ↓UGtf, ↓UGft, ↓UGff, ↓MGtt, ↓MGtf, ↓MGft, ↓MGff, ↓NGtt, ↓NGtf, ↓NGft, ↓NGff, ↓PGtt, ↓PGtf, ↓PGft, ↓PGff, ↓BGtt, ↓BGtf, ↓BGft, ↓BGff, ↓CGtt, ↓CGtf, ↓CGft, ↓CGff, ↓IGtt, ↓IGtf, ↓IGft, ↓IGff, ↓PKt, ↓PKf, ↓CDt, ↓CDf, ↓NOTt, ↓NOTf, ↓NK_ptr, ↓GTt c2]
        exact ⟨true, rfl, fun q => by simp at q, hm02⟩
      · simp only [↓VG_u, ↓UG_u, ↓MG_u, ↓NG_u, ↓PG_u, ↓BG_u, ↓CG_u, ↓IG_u, ↓VGtt, ↓VGtf, ↓VGft, ↓VGff, ↓UGtt, ↓UGtf, ↓UGft, ↓UGff, ↓MGtt, ↓MGtf, ↓MGft, ↓MGff, ↓NGtt, ↓NGtf, ↓NGft, ↓NGff, ↓PGtt, ↓PGtf, ↓PGft, ↓PGff, ↓BGtt, ↓BGtf, ↓BGft, ↓BGff, ↓CGtt, ↓CGtf, ↓CGft, ↓CGff, ↓IGtt, ↓IGtf, ↓IGft, ↓IGff, ↓PKt, ↓PKf, ↓CDt, ↓CDf, ↓NOTt, ↓NOTf, ↓NK_ptr, ↓GTf (show (a.ranks.length : Int) ≤ 8 by omega)]
        rw [BK_add, wrap_i (by omega) (by omega)]
        refine ⟨⟨i + 1, hlt, rfl, e0, fun x hx' => ?_, hm02⟩, ?_⟩
        · rw [etk] at hx'
          rcases List.mem_append.1 hx' with z | z
          · exact hall x z
          · rw [List.mem_singleton.1 z]; exact ⟨by omega, hb rfl⟩
        · simp only [sq_n, sq_x, sq_r, bk_n, bk_r, bk_x, rt_r, rt_n, rs_0, rs_t, pk_1, pk_2, up_at, reduceIte, Nat.reduceEqDiff, intOf]; omega
  · obtain rfl : i = l.length := by omega
    rw [decide_eq_false (by omega)]
    refine condF ?_
    rw [sq_x, bk_x, sq_n, dispatcherlaw15_Great_R1_eq]; unfold dispatcherlaw15_Great_R1_F
    rw [List.take_length] at hall
    exact ⟨false, rfl, fun _ => ⟨by omega, fun a ha => (hall a ha).1, fun a ha => (hall a ha).2⟩, hm⟩
end
end Go.Proofs.YtandbmnhghmcgaaDoor.Col
set_option linter.unusedVariables false
set_option linter.unusedSimpArgs false
set_option maxRecDepth 8000
namespace Go.X
open Go Go.RowKit
end Go.X
namespace Go.Proofs.YtandbmnhghmcgaaDoor.Col
open Go Go.X Go.RowKit Go.Proofs.YtandbmnhghmcgaaDoor.XF Go.Proofs.YtandbmnhghmcgaaDoor.XG Go.Proofs.YtandbmnhghmcgaaDoor.XI Go.Proofs.YtandbmnhghmcgaaDoor.XK
structure Cs (w0 w : World) (p : Nat) (loose : Bool) (L : List Br) (V : CV) : Prop where
  at_ : CAt w p loose L V
  new : ∀ b, CF p V b → w0.heap.size ≤ b
  mod : Mod none_ w0 w
section
variable {w0 w w' : World} {p : Nat} {loose : Bool} {L : List Br} {V V' : CV}
theorem Cs.calm (h : Cs w0 w p loose L V) (hm : Mod none_ w w') : Cs w0 w' p loose L V := ⟨h.at_.calm hm, h.new, h.mod.trans hm⟩
theorem Cs.put {L' : List Br} (h : Cs w0 w p loose L V) (hc : CAt w' p loose L' V') (hf : CFr p w V w' V') : Cs w0 w' p loose L' V' :=
  ⟨hc, fun b hb => (hf.f b hb).elim (h.new b) fun z => Nat.le_trans h.mod.size z, h.mod.then hf.mod fun i hi z => by have := h.new i z; omega⟩
theorem keepB (h : CAt w p loose L V) (hf : CFr p w V w' V') {t : TypeId} (h1 : t ≠ tC) (h2 : t ≠ tRo) (h3 : t ≠ tPts) (h4 : t ≠ tPt) {b : Nat} {cs : Array Value} (hb : w.heap[b]? = some (.cells cs t (0, 0))) : w'.heap[b]? = some (.cells cs t (0, 0)) :=
  hf.mod.blk hb fun z => h.notT h1 h2 h3 h4 z ⟨_, _, hb⟩
end
end Go.Proofs.YtandbmnhghmcgaaDoor.Col
set_option linter.unusedVariables false
set_option linter.unusedSimpArgs false
set_option maxRecDepth 8000
namespace Go.Proofs.YtandbmnhghmcgaaDoor.Col
open Go Go.X Go.RowKit Go.Proofs.YtandbmnhghmcgaaDoor.XF Go.Proofs.YtandbmnhghmcgaaDoor.XG Go.Proofs.YtandbmnhghmcgaaDoor.XI Go.Proofs.YtandbmnhghmcgaaDoor.XK
section
variable {w0 w : World} {p d : Nat} {loose : Bool} {V VD : CV}
end
end Go.Proofs.YtandbmnhghmcgaaDoor.Col
set_option linter.unusedVariables false
set_option linter.unusedSimpArgs false
set_option maxRecDepth 8000
namespace Go.Proofs.YtandbmnhghmcgaaDoor.Col
open Go Go.X Go.RowKit Go.Proofs.YtandbmnhghmcgaaDoor.XF Go.Proofs.YtandbmnhghmcgaaDoor.XG Go.Proofs.YtandbmnhghmcgaaDoor.XI Go.Proofs.YtandbmnhghmcgaaDoor.XK
section
variable {w : World}
end
end Go.Proofs.YtandbmnhghmcgaaDoor.Col
set_option linter.unusedVariables false
set_option linter.unusedSimpArgs false
set_option maxRecDepth 8000
namespace Go.X
open Go Go.RowKit
end Go.X
namespace Go.Proofs.YtandbmnhghmcgaaDoor.Col
open Go Go.X Go.RowKit Go.Proofs.YtandbmnhghmcgaaDoor.XF Go.Proofs.YtandbmnhghmcgaaDoor.XG Go.Proofs.YtandbmnhghmcgaaDoor.XI Go.Proofs.YtandbmnhghmcgaaDoor.XK
abbrev PtsR (w : World) (v : Value) (l : List Pt) : Prop := reads w 6 v l.length (l.flatMap Pt.enc)
section
variable {w : World}
theorem PtsR.calm {w' : World} {v : Value} {l : List Pt} (h : PtsR w v l) (hm : Mod none_ w w') : PtsR w' v l := reads_mod h hm (fun _ _ _ => id)
end
end Go.Proofs.YtandbmnhghmcgaaDoor.Col
set_option linter.unusedVariables false
set_option linter.unusedSimpArgs false
set_option maxRecDepth 8000
namespace Go.X
open Go Go.RowKit
theorem fitPt_self (a : Pt) : fitPt a a = true := by simp [fitPt]
end Go.X
namespace Go.Proofs.YtandbmnhghmcgaaDoor.Col
open Go Go.X Go.RowKit Go.Proofs.YtandbmnhghmcgaaDoor.XF Go.Proofs.YtandbmnhghmcgaaDoor.XG Go.Proofs.YtandbmnhghmcgaaDoor.XI Go.Proofs.YtandbmnhghmcgaaDoor.XK
section
variable {w : World}
end
end Go.Proofs.YtandbmnhghmcgaaDoor.Col
set_option linter.unusedVariables false
set_option linter.unusedSimpArgs false
set_option maxRecDepth 8000
namespace Go.Proofs.YtandbmnhghmcgaaDoor.Col
open Go Go.X Go.RowKit Go.Proofs.YtandbmnhghmcgaaDoor.XF Go.Proofs.YtandbmnhghmcgaaDoor.XG Go.Proofs.YtandbmnhghmcgaaDoor.XI Go.Proofs.YtandbmnhghmcgaaDoor.XK
section
variable {w0 w : World} {p : Nat} {loose : Bool} {l : List Pt} {lacks : Int} {v : Value}
structure AlS (loose : Bool) (v : Value) (lacks : Int) (p : Nat) (ρ : Sl) : Prop where
  h0 : ρ 0 = .bool loose
  h1 : ρ 1 = v
  h2 : ρ 2 = .int .i64 lacks
  h7 : ρ 7 = .pointer (some ⟨p, 0, none⟩)
theorem AlS.of {ρ ρ' : Sl} (h : AlS loose v lacks p ρ) (hs : ∀ i, i < 8 → ρ' i = ρ i) : AlS loose v lacks p ρ' := ⟨(hs 0 (by decide)).trans h.h0, (hs 1 (by decide)).trans h.h1, (hs 2 (by decide)).trans h.h2, (hs 7 (by decide)).trans h.h7⟩
end
end Go.Proofs.YtandbmnhghmcgaaDoor.Col
set_option linter.unusedVariables false
set_option linter.unusedSimpArgs false
set_option maxRecDepth 8000
namespace Go.Proofs.YtandbmnhghmcgaaDoor.Col
open Go Go.X Go.RowKit Go.Proofs.YtandbmnhghmcgaaDoor.XF Go.Proofs.YtandbmnhghmcgaaDoor.XG Go.Proofs.YtandbmnhghmcgaaDoor.XI Go.Proofs.YtandbmnhghmcgaaDoor.XK
section
variable {w0 w : World} {p : Nat} {loose : Bool} {l : List Pt} {lacks : Int} {v : Value}
end
end Go.Proofs.YtandbmnhghmcgaaDoor.Col
set_option linter.unusedVariables false
set_option linter.unusedSimpArgs false
set_option maxRecDepth 8000
namespace Go.Proofs.YtandbmnhghmcgaaDoor.Col
open Go Go.X Go.RowKit Go.Proofs.YtandbmnhghmcgaaDoor.XF Go.Proofs.YtandbmnhghmcgaaDoor.XG Go.Proofs.YtandbmnhghmcgaaDoor.XI Go.Proofs.YtandbmnhghmcgaaDoor.XK
section
variable {w : World}
end
end Go.Proofs.YtandbmnhghmcgaaDoor.Col
set_option linter.unusedVariables false
set_option linter.unusedSimpArgs false
set_option maxRecDepth 8000
namespace Go.X
open Go Go.RowKit
end Go.X
namespace Go.Proofs.YtandbmnhghmcgaaDoor.Col
open Go Go.X Go.RowKit Go.Proofs.YtandbmnhghmcgaaDoor.XF Go.Proofs.YtandbmnhghmcgaaDoor.XG Go.Proofs.YtandbmnhghmcgaaDoor.XI Go.Proofs.YtandbmnhghmcgaaDoor.XK
end Go.Proofs.YtandbmnhghmcgaaDoor.Col
set_option linter.unusedVariables false
set_option linter.unusedSimpArgs false
set_option maxRecDepth 8000
namespace Go.X
open Go Go.RowKit
end Go.X
namespace Go.Proofs.YtandbmnhghmcgaaDoor.Col
open Go Go.X Go.RowKit Go.Proofs.YtandbmnhghmcgaaDoor.XF Go.Proofs.YtandbmnhghmcgaaDoor.XG Go.Proofs.YtandbmnhghmcgaaDoor.XI Go.Proofs.YtandbmnhghmcgaaDoor.XK
section
variable {w0 w w' : World} {p : Nat} {loose : Bool} {L : List Br} {V V' : CV}
end
end Go.Proofs.YtandbmnhghmcgaaDoor.Col
set_option linter.unusedVariables false
set_option linter.unusedSimpArgs false
set_option maxRecDepth 8000
namespace Go.X
open Go Go.RowKit
def u8L (l : List Int) : List Value := l.map fun n => .int .u8 n
end Go.X
namespace Go.Proofs.YtandbmnhghmcgaaDoor.Col
open Go Go.X Go.RowKit Go.Proofs.YtandbmnhghmcgaaDoor.XF Go.Proofs.YtandbmnhghmcgaaDoor.XG Go.Proofs.YtandbmnhghmcgaaDoor.XI Go.Proofs.YtandbmnhghmcgaaDoor.XK
section
variable {w0 w : World} {p : Nat} {loose : Bool} {L : List Br} {V : CV}
structure AoS (p n : Nat) (v tv : Value) (ρ : Sl) : Prop where
  h0 : ρ 0 = .pointer (some ⟨p, 0, none⟩)
  h1 : ρ 1 = .int .i64 n
  h2 : ρ 2 = v
  h3 : ρ 3 = tv
theorem AoS.of {n : Nat} {v tv : Value} {ρ ρ' : Sl} (h : AoS p n v tv ρ) (hs : ∀ i, i < 4 → ρ' i = ρ i) : AoS p n v tv ρ' := ⟨(hs 0 (by decide)).trans h.h0, (hs 1 (by decide)).trans h.h1, (hs 2 (by decide)).trans h.h2, (hs 3 (by decide)).trans h.h3⟩
theorem AoS.same {n : Nat} {v tv : Value} {ρ ρ' : Sl} (h : AoS p n v tv ρ) (h0 : ρ' 0 = ρ 0) (h1 : ρ' 1 = ρ 1) (h2 : ρ' 2 = ρ 2) (h3 : ρ' 3 = ρ 3) : AoS p n v tv ρ' := ⟨h0.trans h.h0, h1.trans h.h1, h2.trans h.h2, h3.trans h.h3⟩
end
end Go.Proofs.YtandbmnhghmcgaaDoor.Col
set_option linter.unusedVariables false
set_option linter.unusedSimpArgs false
set_option maxRecDepth 8000
namespace Go.Proofs.YtandbmnhghmcgaaDoor.Col
open Go Go.X Go.RowKit Go.Proofs.YtandbmnhghmcgaaDoor.XF Go.Proofs.YtandbmnhghmcgaaDoor.XG Go.Proofs.YtandbmnhghmcgaaDoor.XI Go.Proofs.YtandbmnhghmcgaaDoor.XK
structure Trn (w : World) (tv : Value) (ts : List Int) : Prop where
  row : reads w 1 tv ts.length (u8L ts)
  lo : ∀ t ∈ ts, 0 ≤ t ∧ t ≤ 255
theorem Trn.calm {w w' : World} {tv : Value} {ts : List Int} (h : Trn w tv ts) (hm : Mod none_ w w') : Trn w' tv ts := ⟨reads_mod h.row hm (fun _ _ _ => id), h.lo⟩
section
variable {w0 w : World} {p : Nat} {loose : Bool} {V : CV}
end
end Go.Proofs.YtandbmnhghmcgaaDoor.Col
set_option linter.unusedVariables false
set_option linter.unusedSimpArgs false
set_option maxRecDepth 8000
namespace Go.X
open Go Go.RowKit
theorem FullL.clr {l : List Pt} {L : List Br} (h : FullL l L) (hc : ∀ q ∈ l, -9223372036854775808 ≤ q.color ∧ q.color ≤ 9223372036854775807) : ∀ b ∈ L, -9223372036854775808 ≤ b.p.color ∧ b.p.color ≤ 9223372036854775807 := by
  intro b hb
  obtain ⟨hk, hr⟩ := h.wd.all b hb
  have hrk := (h.inv.ok b hb).2.1
  rw [hr] at hrk
  obtain ⟨h0, h1⟩ := worldL_mem.1 hrk
  have hp := h.pt b.rank.toNat (by omega)
  rw [Int.toNat_of_nonneg h0] at hp
  have hm : b.p ∈ partsC L [] b.rank := by
    unfold partsC
    refine List.mem_map.2 ⟨b, List.mem_filter.2 ⟨hb, ?_⟩, rfl⟩
    simp [atK, hk]
  rw [hp, List.mem_singleton] at hm
  rw [hm]
  refine hc _ ?_
  rw [List.getD_eq_getElem?_getD, List.getElem?_eq_getElem (by omega)]
  exact List.getElem_mem _
theorem FullL.key {l : List Pt} {L : List Br} (h : FullL l L) : ∀ b ∈ L, b.key.length ≤ 1000000 := fun b hb => by rw [(h.wd.all b hb).1]; simp
end Go.X
namespace Go.Proofs.YtandbmnhghmcgaaDoor.Col
open Go Go.X Go.RowKit Go.Proofs.YtandbmnhghmcgaaDoor.XF Go.Proofs.YtandbmnhghmcgaaDoor.XG Go.Proofs.YtandbmnhghmcgaaDoor.XI Go.Proofs.YtandbmnhghmcgaaDoor.XK
section
variable {w : World}
theorem owns_max {B : Nat} {e : TypeId} {s : Nat} {v : Value} {n : Nat} {xs : List Value} (h : w.ownsRow B e s v n xs) : n ≤ maxLen := by
  obtain ⟨_, ⟨_, rfl⟩ | ⟨g, cap, cur, _, _, _, hn, hm, _⟩⟩ := h
  · exact Nat.zero_le _
  · exact Nat.le_trans hn hm
theorem TdAt.max {B : Nat} {v : Value} {t : Td} (h : TdAt w B v t) : t.row.length ≤ maxLen ∧ t.ranks.length ≤ maxLen := by
  obtain ⟨row, rks, _, h1, h2⟩ := h
  exact ⟨owns_max h1, owns_max h2⟩
theorem TdAt.one {B : Nat} {v : Value} {t : Td} (h : TdAt w B v t) : ∃ row rks, v = .agg (tdCells t row rks) ∧ (tdCells t row rks).all (·.oneCell') = true := by
  obtain ⟨row, rks, e, h1, h2⟩ := h
  obtain ⟨A1, c1, e1, _⟩ := reads_cap (reads_of_owns h1)
  obtain ⟨A2, c2, e2, _⟩ := reads_cap (reads_of_owns h2)
  exact ⟨row, rks, e, by rw [e1, e2]; exact td_one _ _ _ _ _ _ _⟩
end
end Go.Proofs.YtandbmnhghmcgaaDoor.Col
set_option linter.unusedVariables false
set_option linter.unusedSimpArgs false
set_option maxRecDepth 8000
namespace Go.X
open Go Go.RowKit
structure Wi where
  n : Nat
  k : Int
  row : Value
  rks : Value
  t : Td
def Wi.enc (x : Wi) : List Value := (tdCells x.t x.row x.rks).toList
theorem Wi.enc_len (x : Wi) : x.enc.length = 4 + 1 := rfl
end Go.X
namespace Go.Proofs.YtandbmnhghmcgaaDoor.Col
open Go Go.X Go.RowKit Go.Proofs.YtandbmnhghmcgaaDoor.XF Go.Proofs.YtandbmnhghmcgaaDoor.XG Go.Proofs.YtandbmnhghmcgaaDoor.XI Go.Proofs.YtandbmnhghmcgaaDoor.XK
structure WiAt (w : World) (B : Nat) (hv kv : Value) (x : Wi) : Prop where
  row : w.ownsRow B tL 1 x.row x.t.row.length (ints x.t.row)
  rks : w.ownsRow B tI 1 x.rks x.t.ranks.length (ints x.t.ranks)
  ne : ∀ b, sb hv b ∨ sb kv b → ¬ sb x.rks b
structure Was (w : World) (B : Nat) (wv hv kv : Value) (xs : List Wi) : Prop where
  was : w.ownsRow B tTd 5 wv xs.length (xs.flatMap Wi.enc)
  whose : w.ownsRow B tI 1 hv xs.length (ints (xs.map fun x => (x.n : Int)))
  which : w.ownsRow B tI 1 kv xs.length (ints (xs.map (·.k)))
  ne : ∀ b, sb hv b → ¬ sb kv b
  td : ∀ x ∈ xs, WiAt w B hv kv x
section
variable {w w' : World} {B : Nat} {wv hv kv : Value} {xs : List Wi}
theorem Was.nil (w : World) (B : Nat) : Was w B nilS nilS nilS [] := ⟨World.ownsRow_nil _ _ _ _, World.ownsRow_nil _ _ _ _, World.ownsRow_nil _ _ _ _, fun b h => (by cases h), fun x hx => by cases hx⟩
theorem Was.mod {S : Nat → Prop} (h : Was w B wv hv kv xs) (hm : Mod S w w') (h1 : ∀ b, isT tTd w b → ¬ S b) (h2 : ∀ b, isT tI w b → ¬ S b) (h3 : ∀ b, isT tL w b → ¬ S b) : Was w' B wv hv kv xs :=
  ⟨owns_mod h.was hm fun b hb => h1 b (isT_own h.was hb), owns_mod h.whose hm fun b hb => h2 b (isT_own h.whose hb), owns_mod h.which hm fun b hb => h2 b (isT_own h.which hb), h.ne,
    fun x hx => ⟨owns_mod (h.td x hx).row hm fun b hb => h3 b (isT_own (h.td x hx).row hb), owns_mod (h.td x hx).rks hm fun b hb => h2 b (isT_own (h.td x hx).rks hb), (h.td x hx).ne⟩⟩
theorem Was.calm (h : Was w B wv hv kv xs) (hm : Mod none_ w w') : Was w' B wv hv kv xs := h.mod hm (fun _ _ => id) (fun _ _ => id) (fun _ _ => id)
theorem Was.bring {p : Nat} {loose : Bool} {L : List Br} {V V' : CV} (h : Was w B wv hv kv xs) (hc : CAt w p loose L V) (hf : CFr p w V w' V') : Was w' B wv hv kv xs :=
  h.mod hf.mod (fun b hb z => hc.notT (by decide) (by decide) (by decide) (by decide) z hb) (fun b hb z => hc.typ z hb) (fun b hb z => hc.notT (by decide) (by decide) (by decide) (by decide) z hb)
end
end Go.Proofs.YtandbmnhghmcgaaDoor.Col
set_option linter.unusedVariables false
set_option linter.unusedSimpArgs false
set_option maxRecDepth 8000
namespace Go.Proofs.YtandbmnhghmcgaaDoor.Col
open Go Go.X Go.RowKit Go.Proofs.YtandbmnhghmcgaaDoor.XF Go.Proofs.YtandbmnhghmcgaaDoor.XG Go.Proofs.YtandbmnhghmcgaaDoor.XI Go.Proofs.YtandbmnhghmcgaaDoor.XK
structure GrC (w0 w : World) (p : Nat) (loose : Bool) (L : List Br) (V : CV) (v : Value) (l : List Ac) : Prop where
  gl : Gl w0
  acts : Acts w0 v l
  sm : Small l
  cs : Cs w0 w p loose L V
  len : L.length ≤ 1000
  key : ∀ b ∈ L, b.key.length ≤ 1000000
  clr : ∀ b ∈ L, -9223372036854775808 ≤ b.p.color ∧ b.p.color ≤ 9223372036854775807
section
variable {w0 w w' : World} {p : Nat} {loose : Bool} {L : List Br} {V : CV} {v : Value} {l : List Ac}
theorem GrC.calm (h : GrC w0 w p loose L V v l) (hm : Mod none_ w w') : GrC w0 w' p loose L V v l := ⟨h.gl, h.acts, h.sm, h.cs.calm hm, h.len, h.key, h.clr⟩
theorem GrC.is (h : GrC w0 w p loose L V v l) : Gl w ∧ CAt w p loose L V ∧ L.length ≤ 1000000 := ⟨h.gl.calm h.cs.mod, h.cs.at_, by have := h.len; omega⟩
theorem ac_key {g : Addr} {a : Ac} (h : AcAt w g a) : (Instr.loadAt 9 (.pointer (some ((g.add 0).add 0)))).run Tryd.prog w = .ok (strV a.key) w := run_ld1 vS rfl (by rw [add_add]; exact h 0 _ rfl)
theorem ac_rank {g : Addr} {a : Ac} (h : AcAt w g a) : (Instr.loadAt tI (.pointer (some (g.add 2)))).run Tryd.prog w = .ok (.int .i64 a.rank) w := run_ld1 vI rfl (h 2 _ rfl)
end
end Go.Proofs.YtandbmnhghmcgaaDoor.Col
set_option linter.unusedVariables false
set_option linter.unusedSimpArgs false
set_option maxRecDepth 8000
namespace Go.Proofs.YtandbmnhghmcgaaDoor.Col
open Go Go.X Go.RowKit Go.Proofs.YtandbmnhghmcgaaDoor.XF Go.Proofs.YtandbmnhghmcgaaDoor.XG Go.Proofs.YtandbmnhghmcgaaDoor.XI Go.Proofs.YtandbmnhghmcgaaDoor.XK
section
variable {w : World}
end
end Go.Proofs.YtandbmnhghmcgaaDoor.Col
set_option linter.unusedVariables false
set_option linter.unusedSimpArgs false
set_option maxRecDepth 8000
namespace Go.X
open Go Go.RowKit
end Go.X
namespace Go.Proofs.YtandbmnhghmcgaaDoor.Col
open Go Go.X Go.RowKit Go.Proofs.YtandbmnhghmcgaaDoor.XF Go.Proofs.YtandbmnhghmcgaaDoor.XG Go.Proofs.YtandbmnhghmcgaaDoor.XI Go.Proofs.YtandbmnhghmcgaaDoor.XK
structure GwS (v : Value) (p : Nat) (wv hv kv : Value) (i : Nat) (k e : Int) (ρ : Sl) : Prop where
  h1 : ρ 1 = v
  h5 : ρ 5 = .pointer (some ⟨p, 0, none⟩)
  h6 : ρ 6 = wv
  h7 : ρ 7 = hv
  h8 : ρ 8 = kv
  h9 : ρ 9 = .int .i64 i
  h11 : ρ 11 = .int .i64 k
  h12 : ρ 12 = .int .i64 e
section
variable {w0 w : World} {p : Nat} {loose : Bool} {L : List Br} {V : CV} {v : Value} {l : List Ac} {wv hv kv : Value} {i : Nat} {k e : Int}
theorem GwS.of {ρ ρ' : Sl} (h : GwS v p wv hv kv i k e ρ) (hs : ∀ i, i < 13 → ρ' i = ρ i) : GwS v p wv hv kv i k e ρ' :=
  ⟨(hs 1 (by decide)).trans h.h1, (hs 5 (by decide)).trans h.h5, (hs 6 (by decide)).trans h.h6, (hs 7 (by decide)).trans h.h7, (hs 8 (by decide)).trans h.h8, (hs 9 (by decide)).trans h.h9, (hs 11 (by decide)).trans h.h11, (hs 12 (by decide)).trans h.h12⟩
end
end Go.Proofs.YtandbmnhghmcgaaDoor.Col
set_option linter.unusedVariables false
set_option linter.unusedSimpArgs false
set_option maxRecDepth 8000
namespace Go.Proofs.YtandbmnhghmcgaaDoor.Col
open Go Go.X Go.RowKit Go.Proofs.YtandbmnhghmcgaaDoor.XF Go.Proofs.YtandbmnhghmcgaaDoor.XG Go.Proofs.YtandbmnhghmcgaaDoor.XI Go.Proofs.YtandbmnhghmcgaaDoor.XK
section
variable {w : World} {a : Ac}
theorem ac_one (h : RR w a.rv a.ranks) : ∃ A n c, a.rv = .slice A n c := by
  obtain ⟨A, c, e, _⟩ := reads_cap h
  exact ⟨A, _, c, e⟩
end
end Go.Proofs.YtandbmnhghmcgaaDoor.Col
set_option linter.unusedVariables false
set_option linter.unusedSimpArgs false
set_option maxRecDepth 8000
namespace Go.X
open Go Go.RowKit
theorem bringC_mem {L : List Br} {b x : Br} (h : x ∈ (bringC L b).1) : x ∈ L ∨ x = b := by
  unfold bringC at h
  split at h
  · rcases List.mem_append.1 h with z | z
    · exact .inl z
    · exact .inr (List.mem_singleton.1 z)
  · exact .inl h
theorem zAc_one (a : Ac) (h : ∃ A n c, a.rv = .slice A n c) : a.enc.toArray.all (·.oneCell') = true := by
  obtain ⟨A, n, c, e⟩ := h
  cases a
  subst e
  kernel_rfl
end Go.X
namespace Go.Proofs.YtandbmnhghmcgaaDoor.Col
open Go Go.X Go.RowKit Go.Proofs.YtandbmnhghmcgaaDoor.XF Go.Proofs.YtandbmnhghmcgaaDoor.XG Go.Proofs.YtandbmnhghmcgaaDoor.XI Go.Proofs.YtandbmnhghmcgaaDoor.XK
theorem zAc : (Tryd.prog.info? tAc).bind (·.zero) = some (.agg (Ac.enc ⟨[], nilS, [], 0, zPt, false⟩).toArray) := by kernel_rfl
section
variable {w0 w w' : World} {p : Nat} {loose : Bool} {L : List Br} {V : CV} {v : Value} {l : List Ac}
theorem GrC.put {a : Ac} (ha : a ∈ l) (hcol : ∀ a ∈ l, -9223372036854775808 ≤ a.p.color ∧ a.p.color ≤ 9223372036854775807) (hg : GrC w0 w p loose L V v l) (hL : L.length < 1000) {V' : CV} (hc : CAt w' p loose (bringC L a.br).1 V') (hf : CFr p w V w' V') : GrC w0 w' p loose (bringC L a.br).1 V' v l :=
  ⟨hg.gl, hg.acts, hg.sm, hg.cs.put hc hf, by have := bringC_len L a.br; omega, fun b hb => (bringC_mem hb).elim (hg.key b) fun q => by rw [q]; have := hg.sm.key a ha; show a.key.length ≤ _; omega, fun b hb => (bringC_mem hb).elim (hg.clr b) fun q => by rw [q]; exact hcol a ha⟩
end
end Go.Proofs.YtandbmnhghmcgaaDoor.Col
set_option linter.unusedVariables false
set_option linter.unusedSimpArgs false
set_option maxRecDepth 8000
namespace Go.Proofs.YtandbmnhghmcgaaDoor.Col
open Go Go.X Go.RowKit Go.Proofs.YtandbmnhghmcgaaDoor.XF Go.Proofs.YtandbmnhghmcgaaDoor.XG Go.Proofs.YtandbmnhghmcgaaDoor.XI Go.Proofs.YtandbmnhghmcgaaDoor.XK
section
variable {w : World}
theorem NumberD_ok {key : Ky} {rv : Value} {r : List Int} (h : RR w rv r) (hl : r.length ≤ 1000000) (x : Int) : Rt Tryd.prog 40 #[grpV key rv, .int .i64 x] w fun u w' => u = .tuple #[.int .i64 (numI r x), .bool (decide (x ∈ r))] ∧ Mod none_ w w' := by
  refine dispatcherref11_Number_calls ?_
  unfold dispatcherref11_Number_F
  refine box_k (cs := #[strV key, rv]) rfl fun w1 hb1 hm1 hz1 => ?_
  refine W_loop dispatcherref11_Number_L0_ok (fun ρ w' => ∃ i : Nat, i ≤ r.length ∧ ρ 6 = .int .i64 i ∧ ρ 1 = .int .i64 x ∧ ρ 2 = .pointer (some ⟨w.heap.size, 0, none⟩) ∧ (∀ a ∈ r.take i, a ≠ x) ∧ w' = w1) (fun ρ _ => r.length - (intOf (ρ 6)).toNat)
    ⟨0, Nat.zero_le _, rfl, rfl, rfl, by simp, rfl⟩ ?_
  rintro ρ _ ⟨i, hi, e6, e1, e2, hall, rfl⟩
  obtain ⟨A, c, es, _⟩ := reads_cap h
  have h1 := h.calm hm1
  rw [dispatcherref11_Number_L0_eq]; unfold dispatcherref11_Number_L0_F
  rw [e6, e1, e2]
  simp only [↓(fG1 hb1).e]
  rw [es, len_sl vIs, ← es, BK_lss]
  by_cases hlt : i < r.length
  · rw [decide_eq_true (by omega)]
    refine condT ?_
    simp only [↓(fG1 hb1).e]
    have hx : r[i]? = some r[i] := List.getElem?_eq_getElem hlt
    have hmem : r[i] ∈ r := List.getElem_mem hlt
    have etk : r.take (i + 1) = r.take i ++ [r[i]] := by rw [List.take_add_one, hx]; rfl
    generalize r[i] = y at *
    obtain ⟨p1, r1, l1⟩ := ixR h1 hx
    refine VK_of (r1 _) (VK_of (l1 _ (Mod.refl _ _)) ?_)
    by_cases c1 : y = x
    · subst c1
      rw [EQt rfl]
      refine condT ⟨?_, hm1⟩
      have := idxOf_at hx hall
      unfold numI
      rw [if_pos hmem, this, decide_eq_true hmem]
      try rfl
    · rw [EQf c1]
      refine condF ?_
      rw [BK_add, wrap_i (by omega) (by omega)]
      refine ⟨⟨i + 1, hlt, rfl, e1, e2, fun a ha => ?_, rfl⟩, ?_⟩
      · rw [etk] at ha
        rcases List.mem_append.1 ha with z | z
        · exact hall a z
        · rw [List.mem_singleton.1 z]; exact c1
      · simp only [sq_n, sq_x, sq_r, bk_n, bk_r, bk_x, rt_r, rt_n, rs_0, rs_t, pk_1, pk_2, up_at, reduceIte, Nat.reduceEqDiff, intOf]; omega
  · obtain rfl : i = r.length := by omega
    rw [decide_eq_false (by omega)]
    refine condF ?_
    rw [sq_x, bk_x, sq_n, dispatcherref11_Number_R1_eq]; unfold dispatcherref11_Number_R1_F
    rw [List.take_length] at hall
    have hn : ¬ x ∈ r := fun q => hall x q rfl
    refine ⟨?_, hm1⟩
    unfold numI
    rw [if_neg hn, decide_eq_false hn]
    try rfl
theorem FitD_ok (a b : Pt) (w : World) : Rt Tryd.prog 22 #[a.v, b.v] w fun x w' => x = .bool (fitPt a b) ∧ Mod none_ w w' := by
  refine dispatcherref15_Fit_calls ?_
  unfold dispatcherref15_Fit_F
  refine box_k (cs := a.enc.toArray) rfl fun w1 hb1 hm1 hz1 => ?_
  refine box_k (cs := b.enc.toArray) rfl fun w2 hb2 hm2 hz2 => ?_
  have h1 := hm2.blk hb1 id
  have hm := hm1.trans hm2
  simp only [↓(fP0 h1).e, ↓(fP0 hb2).e]
  unfold fitPt
  by_cases c1 : a.kind = b.kind
  case neg =>
    simp only [↓VG_u, ↓UG_u, ↓MG_u, ↓NG_u, ↓PG_u, ↓BG_u, ↓CG_u, ↓IG_u, ↓VGtt, ↓VGtf, ↓VGft, ↓VGff, ↓UGtt, ↓UGtf, ↓UGft, ↓UGff, ↓MGtt, ↓MGtf, ↓MGft, ↓MGff, ↓NGtt, ↓NGtf, ↓NGft, ↓NGff, ↓PGtt, ↓PGtf, ↓PGft, ↓PGff, ↓BGtt, ↓BGtf, ↓BGft, ↓BGff, ↓CGtt, ↓CGtf, ↓CGft, ↓CGff, ↓IGtt, ↓IGtf, ↓IGft, ↓IGff, ↓PKt, ↓PKf, ↓CDt, ↓CDf, ↓NOTt, ↓NOTf, ↓NK_ptr, ↓EQf c1]
    exact ⟨by rw [decide_eq_false c1]; rfl, hm⟩
  simp only [↓VG_u, ↓UG_u, ↓MG_u, ↓NG_u, ↓PG_u, ↓BG_u, ↓CG_u, ↓IG_u, ↓VGtt, ↓VGtf, ↓VGft, ↓VGff, ↓UGtt, ↓UGtf, ↓UGft, ↓UGff, ↓MGtt, ↓MGtf, ↓MGft, ↓MGff, ↓NGtt, ↓NGtf, ↓NGft, ↓NGff, ↓PGtt, ↓PGtf, ↓PGft, ↓PGff, ↓BGtt, ↓BGtf, ↓BGft, ↓BGff, ↓CGtt, ↓CGtf, ↓CGft, ↓CGff, ↓IGtt, ↓IGtf, ↓IGft, ↓IGff, ↓PKt, ↓PKf, ↓CDt, ↓CDf, ↓NOTt, ↓NOTf, ↓NK_ptr, ↓EQt c1, ↓(fP1 h1).e, ↓(fP1 hb2).e]
  by_cases c2 : a.root = b.root
  case neg =>
    simp only [↓VG_u, ↓UG_u, ↓MG_u, ↓NG_u, ↓PG_u, ↓BG_u, ↓CG_u, ↓IG_u, ↓VGtt, ↓VGtf, ↓VGft, ↓VGff, ↓UGtt, ↓UGtf, ↓UGft, ↓UGff, ↓MGtt, ↓MGtf, ↓MGft, ↓MGff, ↓NGtt, ↓NGtf, ↓NGft, ↓NGff, ↓PGtt, ↓PGtf, ↓PGft, ↓PGff, ↓BGtt, ↓BGtf, ↓BGft, ↓BGff, ↓CGtt, ↓CGtf, ↓CGft, ↓CGff, ↓IGtt, ↓IGtf, ↓IGft, ↓IGff, ↓PKt, ↓PKf, ↓CDt, ↓CDf, ↓NOTt, ↓NOTf, ↓NK_ptr, ↓EQf c2]
    exact ⟨by rw [decide_eq_false c2]; simp, hm⟩
  simp only [↓VG_u, ↓UG_u, ↓MG_u, ↓NG_u, ↓PG_u, ↓BG_u, ↓CG_u, ↓IG_u, ↓VGtt, ↓VGtf, ↓VGft, ↓VGff, ↓UGtt, ↓UGtf, ↓UGft, ↓UGff, ↓MGtt, ↓MGtf, ↓MGft, ↓MGff, ↓NGtt, ↓NGtf, ↓NGft, ↓NGff, ↓PGtt, ↓PGtf, ↓PGft, ↓PGff, ↓BGtt, ↓BGtf, ↓BGft, ↓BGff, ↓CGtt, ↓CGtf, ↓CGft, ↓CGff, ↓IGtt, ↓IGtf, ↓IGft, ↓IGff, ↓PKt, ↓PKf, ↓CDt, ↓CDf, ↓NOTt, ↓NOTf, ↓NK_ptr, ↓EQt c2, ↓(fP2 h1).e, ↓(fP2 hb2).e]
  by_cases c3 : a.op = b.op
  · simp only [↓VG_u, ↓UG_u, ↓MG_u, ↓NG_u, ↓PG_u, ↓BG_u, ↓CG_u, ↓IG_u, ↓VGtt, ↓VGtf, ↓VGft, ↓VGff, ↓UGtt, ↓UGtf, ↓UGft, ↓UGff, ↓MGtt, ↓MGtf, ↓MGft, ↓MGff, ↓NGtt, ↓NGtf, ↓NGft, ↓NGff, ↓PGtt, ↓PGtf, ↓PGft, ↓PGff, ↓BGtt, ↓BGtf, ↓BGft, ↓BGff, ↓CGtt, ↓CGtf, ↓CGft, ↓CGff, ↓IGtt, ↓IGtf, ↓IGft, ↓IGff, ↓PKt, ↓PKf, ↓CDt, ↓CDf, ↓NOTt, ↓NOTf, ↓NK_ptr, ↓EQt c3]
    exact ⟨by rw [decide_eq_true c1, decide_eq_true c2, decide_eq_true c3]; rfl, hm⟩
  · simp only [↓VG_u, ↓UG_u, ↓MG_u, ↓NG_u, ↓PG_u, ↓BG_u, ↓CG_u, ↓IG_u, ↓VGtt, ↓VGtf, ↓VGft, ↓VGff, ↓UGtt, ↓UGtf, ↓UGft, ↓UGff, ↓MGtt, ↓MGtf, ↓MGft, ↓MGff, ↓NGtt, ↓NGtf, ↓NGft, ↓NGff, ↓PGtt, ↓PGtf, ↓PGft, ↓PGff, ↓BGtt, ↓BGtf, ↓BGft, ↓BGff, ↓CGtt, ↓CGtf, ↓CGft, ↓CGff, ↓IGtt, ↓IGtf, ↓IGft, ↓IGff, ↓PKt, ↓PKf, ↓CDt, ↓CDf, ↓NOTt, ↓NOTf, ↓NK_ptr, ↓EQf c3]
    exact ⟨by rw [decide_eq_false c3]; simp, hm⟩
theorem CopyD_ok {key : Ky} {rv : Value} {r : List Int} (h : RR w rv r) (hl : r.length ≤ 1000) : Rt Tryd.prog 43 #[grpV key rv] w fun u w' => ∃ rv', u = grpV key rv' ∧ w'.ownsRow w.heap.size tI 1 rv' r.length (ints r) ∧ Mod none_ w w' := by
  refine dispatcherref11_Copy_calls ?_
  unfold dispatcherref11_Copy_F
  refine box_k (cs := #[strV key, rv]) rfl fun w1 hb1 hm1 hz1 => ?_
  refine al_k (cs := #[strV [], nilS]) zG rfl _ fun w2 hb2 hm2 hz2 => ?_
  have hb12 := hm2.blk hb1 id
  have hm02 := hm1.trans hm2
  have hd : Mod none_ w2 { w2 with drawn := w2.drawn + 1 } := (Mod.refl _ w2).drawn _
  refine dispatcherref11_Copy_R0_held (D := []) (fun w' => w'.heap[w.heap.size]? = some (.cells #[strV key, rv] tG (0, 0))) (hd.blk hb12 id) ?_
  have hb2d := hd.blk hb2 id
  have hsd : ({ w2 with drawn := w2.drawn + 1 } : World).heap.size = w2.heap.size := rfl
  have hb1d := hd.blk hb12 id
  generalize ({ w2 with drawn := w2.drawn + 1 } : World) = wd at *
  unfold dispatcherref11_Copy_R0_H
  simp only [sq_n, sq_x, sq_r, bk_n, bk_r, bk_x, rt_r, rt_n, rs_0, rs_t, pk_1, pk_2, up_at, reduceIte, Nat.reduceEqDiff]
  refine HV_of (v := .pointer (some ⟨w.heap.size, 0, none⟩)) (fun w' _ => by rw [run_fo (show fieldOff Tryd.prog tG 0 = some 0 by kernel_rfl), add_pl]) (HV_of (v := strV key) (fun w' hw => run_ld1 vS rfl (by rw [cell_blk hw]; rfl)) ?_)
  refine HV_of (v := .pointer (some ⟨w.heap.size, 1, none⟩)) (fun w' _ => by rw [run_fo (show fieldOff Tryd.prog tG 1 = some 1 by kernel_rfl), add_pl]) (HV_of (v := rv) (fun w' hw => run_ld1 vIs rfl (by rw [cell_blk hw]; rfl)) ?_)
  refine bs0_k (n := 1) vIs (by kernel_rfl) fun w3 hb3 hm3 hz3 => ?_
  have hb13 := hm3.blk hb1d id
  refine ⟨hb13, ?_⟩
  have ho0 : w3.ownsRow wd.heap.size tI 1 (.slice (some ⟨wd.heap.size, 0, none⟩) 0 0) 0 [] := owns_zero hb3 (Nat.le_refl _)
  have hm03 := (hm02.trans hd).trans hm3
  refine ap_any eIs ho0 (h.calm hm03) (fun u hu => ints_one _ u hu) (by unfold maxLen; omega) (by omega) (by omega) fun v4 w4 ho4 hm4 hv4 => ?_
  have hg : ∀ i, some i = (Value.slice (some ⟨wd.heap.size, 0, none⟩) 0 0).ownBlock → i = wd.heap.size := fun i z => Option.some.inj z
  have hs1 := hm1.size
  have hb14 := hm4.blk hb13 fun z => by have := hg _ z; omega
  have hb24 := hm4.blk (hm3.blk hb2d id) fun z => by have := hg _ z; omega
  refine ⟨hb14, ?_⟩
  obtain ⟨A, c, e4, _⟩ := reads_cap (reads_of_owns ho4)
  refine HV_of (v := grpV key v4) (fun w' _ => by rw [e4]; exact run_build (P := Tryd.prog) w' _ _ _ (bG _ _ _ _)) ?_
  refine stS (old := #[strV [], nilS]) (cs := #[strV key, v4]) rfl rfl iG rfl (by rw [e4]; exact grp_one _ _ _ _) hb24 fun w5 hb5 hm5 hz5 => ?_
  refine ⟨hm5.blk hb14 fun z => by omega, ?_⟩
  try rw [sq_n]
  rw [dispatcherref11_Copy_R1_eq]; unfold dispatcherref11_Copy_R1_F
  refine rtCell (cs := #[strV key, v4]) (b := w1.heap.size) rfl Tryd.underlying32 rfl iG hb5 ⟨v4, rfl, ?_, ?_⟩
  · have := owns_mod ho4 hm5 fun b hb z => by subst z; exact isT_ne (isT_own ho4 hb) ⟨_, _, hb24⟩ (by decide)
    have := owns_base this (show w.heap.size ≤ wd.heap.size by omega)
    simpa using this
  · exact (hm03.then hm4 fun i hi z => by have := hg _ z; omega).then hm5 fun i hi z => by omega
theorem MayD_ok {key : Ky} {rv : Value} {r : List Int} (h : RR w rv r) (hl : r.length ≤ 64) : Rt Tryd.prog 41 #[grpV key rv] w fun u w' => u = .bool (mayG r) ∧ Mod none_ w w' := by
  refine dispatcherref11_May_calls ?_
  unfold dispatcherref11_May_F
  refine box_k (cs := #[strV key, rv]) rfl fun w1 hb1 hm1 hz1 => ?_
  obtain ⟨A, c, es, _⟩ := reads_cap h
  simp only [↓(fG1 hb1).e]
  rw [es, len_sl vIs, ← es]
  by_cases c0 : (r.length : Int) < 1
  · simp only [↓VG_u, ↓UG_u, ↓MG_u, ↓NG_u, ↓PG_u, ↓BG_u, ↓CG_u, ↓IG_u, ↓VGtt, ↓VGtf, ↓VGft, ↓VGff, ↓UGtt, ↓UGtf, ↓UGft, ↓UGff, ↓MGtt, ↓MGtf, ↓MGft, ↓MGff, ↓NGtt, ↓NGtf, ↓NGft, ↓NGff, ↓PGtt, ↓PGtf, ↓PGft, ↓PGff, ↓BGtt, ↓BGtf, ↓BGft, ↓BGff, ↓CGtt, ↓CGtf, ↓CGft, ↓CGff, ↓IGtt, ↓IGtf, ↓IGft, ↓IGff, ↓PKt, ↓PKf, ↓CDt, ↓CDf, ↓NOTt, ↓NOTf, ↓NK_ptr, ↓LTt c0]
    refine ⟨?_, hm1⟩
    have : ¬ (0 < r.length) := by omega
    unfold mayG
    rw [decide_eq_false this]
    rfl
  simp only [↓VG_u, ↓UG_u, ↓MG_u, ↓NG_u, ↓PG_u, ↓BG_u, ↓CG_u, ↓IG_u, ↓VGtt, ↓VGtf, ↓VGft, ↓VGff, ↓UGtt, ↓UGtf, ↓UGft, ↓UGff, ↓MGtt, ↓MGtf, ↓MGft, ↓MGff, ↓NGtt, ↓NGtf, ↓NGft, ↓NGff, ↓PGtt, ↓PGtf, ↓PGft, ↓PGff, ↓BGtt, ↓BGtf, ↓BGft, ↓BGff, ↓CGtt, ↓CGtf, ↓CGft, ↓CGff, ↓IGtt, ↓IGtf, ↓IGft, ↓IGff, ↓PKt, ↓PKf, ↓CDt, ↓CDf, ↓NOTt, ↓NOTf, ↓NK_ptr, ↓LTf (show (1 : Int) ≤ (r.length : Int) by omega), ↓(fG1 hb1).e]
  rw [es, len_sl vIs, ← es]
  simp only [↓VG_u, ↓UG_u, ↓MG_u, ↓NG_u, ↓PG_u, ↓BG_u, ↓CG_u, ↓IG_u, ↓VGtt, ↓VGtf, ↓VGft, ↓VGff, ↓UGtt, ↓UGtf, ↓UGft, ↓UGff, ↓MGtt, ↓MGtf, ↓MGft, ↓MGff, ↓NGtt, ↓NGtf, ↓NGft, ↓NGff, ↓PGtt, ↓PGtf, ↓PGft, ↓PGff, ↓BGtt, ↓BGtf, ↓BGft, ↓BGff, ↓CGtt, ↓CGtf, ↓CGft, ↓CGff, ↓IGtt, ↓IGtf, ↓IGft, ↓IGff, ↓PKt, ↓PKf, ↓CDt, ↓CDf, ↓NOTt, ↓NOTf, ↓NK_ptr, ↓GTf (show (r.length : Int) ≤ 64 by omega)]
  refine W_loop dispatcherref11_May_L0_ok (fun ρ w' => ∃ i : Nat, i ≤ r.length ∧ ρ 3 = .int .i64 i ∧ ρ 1 = .pointer (some ⟨w.heap.size, 0, none⟩) ∧ (r.take i).Nodup ∧ (∀ a ∈ r.take i, 0 ≤ a ∧ a ≤ 63) ∧ Mod none_ w1 w') (fun ρ _ => r.length - (intOf (ρ 3)).toNat)
    ⟨0, Nat.zero_le _, rfl, rfl, by simp, by simp, Mod.refl _ _⟩ ?_
  rintro ρ w2 ⟨i, hi, e3, e1, hnd, hall, hm2⟩
  have hm02 := hm1.trans hm2
  have hb2 := hm2.blk hb1 id
  rw [dispatcherref11_May_L0_eq]; unfold dispatcherref11_May_L0_F
  rw [e3, e1]
  simp only [↓(fG1 hb2).e]
  rw [es, len_sl vIs, ← es, BK_lss]
  by_cases hlt : i < r.length
  case neg =>
    obtain rfl : i = r.length := by omega
    rw [decide_eq_false (by omega)]
    refine condF ?_
    rw [sq_x, bk_x, sq_n, dispatcherref11_May_R1_eq]; unfold dispatcherref11_May_R1_F
    rw [List.take_length] at hnd hall
    refine ⟨?_, hm02⟩
    rw [mayG_iff.2 ⟨by omega, hall, hnd⟩]
    try rfl
  rw [decide_eq_true (by omega)]
  refine condT ?_
  have hx : r[i]? = some r[i] := List.getElem?_eq_getElem hlt
  have hmem : r[i] ∈ r := List.getElem_mem hlt
  have etk : r.take (i + 1) = r.take i ++ [r[i]] := by rw [List.take_add_one, hx]; rfl
  generalize r[i] = x at *
  obtain ⟨p1, r1, l1⟩ := ixR (h.calm hm02) hx
  simp only [↓(fG1 hb2).e]
  refine VK_of (r1 _) (VK_of (l1 _ (Mod.refl _ _)) ?_)
  by_cases x0 : x < 0
  · simp only [↓VG_u, ↓UG_u, ↓MG_u, ↓NG_u, ↓PG_u, ↓BG_u, ↓CG_u, ↓IG_u, ↓VGtt, ↓VGtf, ↓VGft, ↓VGff, ↓UGtt, ↓UGtf, ↓UGft, ↓UGff, ↓MGtt, ↓MGtf, ↓MGft, ↓MGff, ↓NGtt, ↓NGtf, ↓NGft, ↓NGff, ↓PGtt, ↓PGtf, ↓PGft, ↓PGff, ↓BGtt, ↓BGtf, ↓BGft, ↓BGff, ↓CGtt, ↓CGtf, ↓CGft, ↓CGff, ↓IGtt, ↓IGtf, ↓IGft, ↓IGff, ↓PKt, ↓PKf, ↓CDt, ↓CDf, ↓NOTt, ↓NOTf, ↓NK_ptr, ↓LTt x0]
    exact ⟨by rw [mayG_f ⟨x, hmem, fun q => by omega⟩]; rfl, hm02⟩
  simp only [↓VG_u, ↓UG_u, ↓MG_u, ↓NG_u, ↓PG_u, ↓BG_u, ↓CG_u, ↓IG_u, ↓VGtt, ↓VGtf, ↓VGft, ↓VGff, ↓UGtt, ↓UGtf, ↓UGft, ↓UGff, ↓MGtt, ↓MGtf, ↓MGft, ↓MGff, ↓NGtt, ↓NGtf, ↓NGft, ↓NGff, ↓PGtt, ↓PGtf, ↓PGft, ↓PGff, ↓BGtt, ↓BGtf, ↓BGft, ↓BGff, ↓CGtt, ↓CGtf, ↓CGft, ↓CGff, ↓IGtt, ↓IGtf, ↓IGft, ↓IGff, ↓PKt, ↓PKf, ↓CDt, ↓CDf, ↓NOTt, ↓NOTf, ↓NK_ptr, ↓LTf (show 0 ≤ x by omega), ↓(fG1 hb2).e]
  refine VK_of (r1 _) (VK_of (l1 _ (Mod.refl _ _)) ?_)
  by_cases x1 : 63 < x
  · simp only [↓VG_u, ↓UG_u, ↓MG_u, ↓NG_u, ↓PG_u, ↓BG_u, ↓CG_u, ↓IG_u, ↓VGtt, ↓VGtf, ↓VGft, ↓VGff, ↓UGtt, ↓UGtf, ↓UGft, ↓UGff, ↓MGtt, ↓MGtf, ↓MGft, ↓MGff, ↓NGtt, ↓NGtf, ↓NGft, ↓NGff, ↓PGtt, ↓PGtf, ↓PGft, ↓PGff, ↓BGtt, ↓BGtf, ↓BGft, ↓BGff, ↓CGtt, ↓CGtf, ↓CGft, ↓CGff, ↓IGtt, ↓IGtf, ↓IGft, ↓IGff, ↓PKt, ↓PKf, ↓CDt, ↓CDf, ↓NOTt, ↓NOTf, ↓NK_ptr, ↓GTt x1]
    exact ⟨by rw [mayG_f ⟨x, hmem, fun q => by omega⟩]; rfl, hm02⟩
  simp only [↓VG_u, ↓UG_u, ↓MG_u, ↓NG_u, ↓PG_u, ↓BG_u, ↓CG_u, ↓IG_u, ↓VGtt, ↓VGtf, ↓VGft, ↓VGff, ↓UGtt, ↓UGtf, ↓UGft, ↓UGff, ↓MGtt, ↓MGtf, ↓MGft, ↓MGff, ↓NGtt, ↓NGtf, ↓NGft, ↓NGff, ↓PGtt, ↓PGtf, ↓PGft, ↓PGff, ↓BGtt, ↓BGtf, ↓BGft, ↓BGff, ↓CGtt, ↓CGtf, ↓CGft, ↓CGff, ↓IGtt, ↓IGtf, ↓IGft, ↓IGff, ↓PKt, ↓PKf, ↓CDt, ↓CDf, ↓NOTt, ↓NOTf, ↓NK_ptr, ↓GTf (show x ≤ 63 by omega)]
  refine W_loop dispatcherref11_May_L2_ok (fun ρ w' => ∃ k : Nat, k ≤ i ∧ ρ 4 = .int .i64 k ∧ ρ 3 = .int .i64 i ∧ ρ 1 = .pointer (some ⟨w.heap.size, 0, none⟩) ∧ (∀ a ∈ r.take k, a ≠ x) ∧ Mod none_ w1 w') (fun ρ _ => i - (intOf (ρ 4)).toNat)
    ⟨0, Nat.zero_le _, rfl, e3, e1, by simp, hm2⟩ ?_
  rintro ρ3 w3 ⟨k, hk, q4, q3, q1, hne, hm3⟩
  have hm03 := hm1.trans hm3
  have hb3 := hm3.blk hb1 id
  rw [dispatcherref11_May_L2_eq]; unfold dispatcherref11_May_L2_F
  rw [q4, q3, BK_lss]
  by_cases hki : k < i
  · rw [decide_eq_true (by omega)]
    refine condT ?_
    have hy : r[k]? = some r[k] := List.getElem?_eq_getElem (by omega)
    have etk2 : r.take (k + 1) = r.take k ++ [r[k]] := by rw [List.take_add_one, hy]; rfl
    have hyi : r[k] ∈ r.take i := List.mem_take_iff_getElem.2 ⟨k, by omega, rfl⟩
    generalize r[k] = y at *
    obtain ⟨p2, r2, l2⟩ := ixR (h.calm hm03) hy
    obtain ⟨p3, r3, l3⟩ := ixR (h.calm hm03) hx
    refine dispatcherref11_May_R4_quiet (D := []) (fun w' => Mod none_ w3 w') ((Mod.refl _ w3).drawn _) ?_
    unfold dispatcherref11_May_R4_Q
    simp only [sq_n, sq_x, sq_r, bk_n, bk_r, bk_x, rt_r, rt_n, rs_0, rs_t, pk_1, pk_2, up_at, reduceIte, Nat.reduceEqDiff, q1, q3, q4]
    have ldr : ∀ w', Mod none_ w3 w' → (Instr.loadAt tIs (.pointer (some ⟨w.heap.size, 1, none⟩))).run Tryd.prog w' = .ok rv w' := fun w' hw => run_ld1 vIs rfl (by rw [cell_blk (hw.blk hb3 id)]; rfl)
    refine QV_of (v := .pointer (some ⟨w.heap.size, 1, none⟩)) (fun w' _ => by rw [run_fo (show fieldOff Tryd.prog tG 1 = some 1 by kernel_rfl), add_pl]) (QV_of ldr (QV_of (fun w' _ => r2 w') (QV_of (fun w' hw => l2 w' hw) ?_)))
    refine QV_of (v := .pointer (some ⟨w.heap.size, 1, none⟩)) (fun w' _ => by rw [run_fo (show fieldOff Tryd.prog tG 1 = some 1 by kernel_rfl), add_pl]) (QV_of ldr (QV_of (fun w' _ => r3 w') (QV_of (fun w' hw => l3 w' hw) (Qeql ?_))))
    intro w4 hm4
    have hm04 := hm03.trans hm4
    try rw [sq_n]
    rw [dispatcherref11_May_R5_eq]; unfold dispatcherref11_May_R5_F
    simp only [sq_n, sq_x, sq_r, bk_n, bk_r, bk_x, rt_r, rt_n, rs_0, rs_t, pk_1, pk_2, up_at, reduceIte, Nat.reduceEqDiff]
    by_cases cyx : y = x
    · rw [show (y == x) = true by rw [cyx]; simp]
      refine condT ⟨?_, hm04⟩
      rw [mayG_d hx (cyx ▸ hyi)]
    · rw [show (y == x) = false by simpa using cyx]
      refine condF ?_
      try rw [bk_n, sq_n]
      rw [dispatcherref11_May_R6_eq]; unfold dispatcherref11_May_R6_F
      simp only [sq_n, sq_x, sq_r, bk_n, bk_r, bk_x, rt_r, rt_n, rs_0, rs_t, pk_1, pk_2, up_at, reduceIte, Nat.reduceEqDiff, q4]
      rw [BK_add, wrap_i (by omega) (by omega)]
      refine ⟨⟨k + 1, hki, rfl, q3, q1, fun a ha => ?_, hm3.trans hm4⟩, ?_⟩
      · rw [etk2] at ha
        rcases List.mem_append.1 ha with z | z
        · exact hne a z
        · rw [List.mem_singleton.1 z]; exact cyx
      · simp only [sq_n, sq_x, sq_r, bk_n, bk_r, bk_x, rt_r, rt_n, rs_0, rs_t, pk_1, pk_2, up_at, reduceIte, Nat.reduceEqDiff, intOf]; omega
  · obtain rfl : k = i := by omega
    rw [decide_eq_false (by omega)]
    refine condF ?_
    rw [sq_x, bk_x, bk_n, sq_n, dispatcherref11_May_R3_eq]; unfold dispatcherref11_May_R3_F
    simp only [sq_n, sq_x, sq_r, bk_n, bk_r, bk_x, rt_r, rt_n, rs_0, rs_t, pk_1, pk_2, up_at, reduceIte, Nat.reduceEqDiff, q3]
    rw [BK_add, wrap_i (by omega) (by omega)]
    refine ⟨⟨k + 1, hlt, rfl, q1, ?_, fun a ha => ?_, hm3⟩, ?_⟩
    · rw [etk]
      refine List.nodup_append.2 ⟨hnd, by simp, fun a ha b hb => ?_⟩
      rw [List.mem_singleton.1 hb]
      exact hne a ha
    · rw [etk] at ha
      rcases List.mem_append.1 ha with z | z
      · exact hall a z
      · rw [List.mem_singleton.1 z]; exact ⟨by omega, by omega⟩
    · simp only [sq_n, sq_x, sq_r, bk_n, bk_r, bk_x, rt_r, rt_n, rs_0, rs_t, pk_1, pk_2, up_at, reduceIte, Nat.reduceEqDiff, intOf]; omega
end
end Go.Proofs.YtandbmnhghmcgaaDoor.Col
set_option linter.unusedVariables false
set_option linter.unusedSimpArgs false
set_option maxRecDepth 8000
namespace Go.Proofs.YtandbmnhghmcgaaDoor.Col
open Go Go.X Go.RowKit Go.Proofs.YtandbmnhghmcgaaDoor.XF Go.Proofs.YtandbmnhghmcgaaDoor.XG Go.Proofs.YtandbmnhghmcgaaDoor.XI Go.Proofs.YtandbmnhghmcgaaDoor.XK
section
variable {w : World}
theorem MayPD_R1 {w0 : World} {ρ : Sl} {p : Pt} {b : Nat} (hb : w.heap[b]? = some (.cells p.enc.toArray tPt (0, 0))) (q3 : ρ 3 = .pointer (some ⟨b, 0, none⟩)) (hm : Mod none_ w0 w) :
    sx fn_ Tryd.prog 68 dispatcherref15_May_R1 (retK Tryd.prog [ResultVar.tmp 4] fun x w' => x = .bool ((decide (p.root = 0) || rootedK p.kind) && (decide (p.op = 0) || reducesK p.kind)) ∧ Mod none_ w0 w') ρ w := by
  rw [dispatcherref15_May_R1_eq]; unfold dispatcherref15_May_R1_F
  rw [q3]
  simp only [↓(fP0 hb).e]
  obtain ⟨rt, hrt⟩ : ∃ rt, rt = rootedK p.kind := ⟨_, rfl⟩
  obtain ⟨rd, hrd⟩ : ∃ rd, rd = reducesK p.kind := ⟨_, rfl⟩
  have red : ∀ (K : Value → Value → Value → Value → Value → Value → Value → Value → World → Prop), (∀ a1 a2 a3 a4 a5 a6 a7, K a1 a2 a3 a4 a5 a6 a7 (.bool rd) w) → True := fun _ _ => trivial
  have tail : ∀ (rt : Bool) (K : Value → World → Prop), (K (.bool ((decide (p.root = 0) || rt) && (decide (p.op = 0) || rd))) w) → True := fun _ _ _ => trivial
  by_cases k16 : p.kind = 16
  · have e1 : rootedK p.kind = true := by rw [k16]; decide
    have e2 : reducesK p.kind = false := by rw [k16]; decide
    rw [e1, e2]
    simp only [↓VG_u, ↓UG_u, ↓MG_u, ↓NG_u, ↓PG_u, ↓BG_u, ↓CG_u, ↓IG_u, ↓VGtt, ↓VGtf, ↓VGft, ↓VGff, ↓UGtt, ↓UGtf, ↓UGft, ↓UGff, ↓MGtt, ↓MGtf, ↓MGft, ↓MGff, ↓NGtt, ↓NGtf, ↓NGft, ↓NGff, ↓PGtt, ↓PGtf, ↓PGft, ↓PGff, ↓BGtt, ↓BGtf, ↓BGft, ↓BGff, ↓CGtt, ↓CGtf, ↓CGft, ↓CGff, ↓IGtt, ↓IGtf, ↓IGft, ↓IGff, ↓PKt, ↓PKf, ↓CDt, ↓CDf, ↓NOTt, ↓NOTf, ↓NK_ptr, ↓EQt k16, ↓(fP0 hb).e, ↓EQf (show p.kind ≠ 17 by omega), ↓EQf (show p.kind ≠ 18 by omega), ↓(fP2 hb).e]
    by_cases o0 : p.op = 0
    · simp only [↓VG_u, ↓UG_u, ↓MG_u, ↓NG_u, ↓PG_u, ↓BG_u, ↓CG_u, ↓IG_u, ↓VGtt, ↓VGtf, ↓VGft, ↓VGff, ↓UGtt, ↓UGtf, ↓UGft, ↓UGff, ↓MGtt, ↓MGtf, ↓MGft, ↓MGff, ↓NGtt, ↓NGtf, ↓NGft, ↓NGff, ↓PGtt, ↓PGtf, ↓PGft, ↓PGff, ↓BGtt, ↓BGtf, ↓BGft, ↓BGff, ↓CGtt, ↓CGtf, ↓CGft, ↓CGff, ↓IGtt, ↓IGtf, ↓IGft, ↓IGff, ↓PKt, ↓PKf, ↓CDt, ↓CDf, ↓NOTt, ↓NOTf, ↓NK_ptr, ↓EQt o0]
      exact ⟨by rw [decide_eq_true o0]; simp; rfl, hm⟩
    · simp only [↓VG_u, ↓UG_u, ↓MG_u, ↓NG_u, ↓PG_u, ↓BG_u, ↓CG_u, ↓IG_u, ↓VGtt, ↓VGtf, ↓VGft, ↓VGff, ↓UGtt, ↓UGtf, ↓UGft, ↓UGff, ↓MGtt, ↓MGtf, ↓MGft, ↓MGff, ↓NGtt, ↓NGtf, ↓NGft, ↓NGff, ↓PGtt, ↓PGtf, ↓PGft, ↓PGff, ↓BGtt, ↓BGtf, ↓BGft, ↓BGff, ↓CGtt, ↓CGtf, ↓CGft, ↓CGff, ↓IGtt, ↓IGtf, ↓IGft, ↓IGff, ↓PKt, ↓PKf, ↓CDt, ↓CDf, ↓NOTt, ↓NOTf, ↓NK_ptr, ↓EQf o0]
      exact ⟨by rw [decide_eq_false o0]; simp; rfl, hm⟩
  by_cases k17 : p.kind = 17
  · have e1 : rootedK p.kind = true := by rw [k17]; decide
    have e2 : reducesK p.kind = true := by rw [k17]; decide
    rw [e1, e2]
    simp only [↓VG_u, ↓UG_u, ↓MG_u, ↓NG_u, ↓PG_u, ↓BG_u, ↓CG_u, ↓IG_u, ↓VGtt, ↓VGtf, ↓VGft, ↓VGff, ↓UGtt, ↓UGtf, ↓UGft, ↓UGff, ↓MGtt, ↓MGtf, ↓MGft, ↓MGff, ↓NGtt, ↓NGtf, ↓NGft, ↓NGff, ↓PGtt, ↓PGtf, ↓PGft, ↓PGff, ↓BGtt, ↓BGtf, ↓BGft, ↓BGff, ↓CGtt, ↓CGtf, ↓CGft, ↓CGff, ↓IGtt, ↓IGtf, ↓IGft, ↓IGff, ↓PKt, ↓PKf, ↓CDt, ↓CDf, ↓NOTt, ↓NOTf, ↓NK_ptr, ↓EQf k16, ↓(fP0 hb).e, ↓EQt k17]
    exact ⟨by simp; rfl, hm⟩
  by_cases k18 : p.kind = 18
  · have e1 : rootedK p.kind = false := by rw [k18]; decide
    have e2 : reducesK p.kind = true := by rw [k18]; decide
    rw [e1, e2]
    simp only [↓VG_u, ↓UG_u, ↓MG_u, ↓NG_u, ↓PG_u, ↓BG_u, ↓CG_u, ↓IG_u, ↓VGtt, ↓VGtf, ↓VGft, ↓VGff, ↓UGtt, ↓UGtf, ↓UGft, ↓UGff, ↓MGtt, ↓MGtf, ↓MGft, ↓MGff, ↓NGtt, ↓NGtf, ↓NGft, ↓NGff, ↓PGtt, ↓PGtf, ↓PGft, ↓PGff, ↓BGtt, ↓BGtf, ↓BGft, ↓BGff, ↓CGtt, ↓CGtf, ↓CGft, ↓CGff, ↓IGtt, ↓IGtf, ↓IGft, ↓IGff, ↓PKt, ↓PKf, ↓CDt, ↓CDf, ↓NOTt, ↓NOTf, ↓NK_ptr, ↓EQf k16, ↓(fP0 hb).e, ↓EQf k17, ↓EQf (show p.kind ≠ 19 by omega), ↓EQt k18, ↓(fP1 hb).e]
    by_cases r0 : p.root = 0
    · simp only [↓VG_u, ↓UG_u, ↓MG_u, ↓NG_u, ↓PG_u, ↓BG_u, ↓CG_u, ↓IG_u, ↓VGtt, ↓VGtf, ↓VGft, ↓VGff, ↓UGtt, ↓UGtf, ↓UGft, ↓UGff, ↓MGtt, ↓MGtf, ↓MGft, ↓MGff, ↓NGtt, ↓NGtf, ↓NGft, ↓NGff, ↓PGtt, ↓PGtf, ↓PGft, ↓PGff, ↓BGtt, ↓BGtf, ↓BGft, ↓BGff, ↓CGtt, ↓CGtf, ↓CGft, ↓CGff, ↓IGtt, ↓IGtf, ↓IGft, ↓IGff, ↓PKt, ↓PKf, ↓CDt, ↓CDf, ↓NOTt, ↓NOTf, ↓NK_ptr, ↓EQt r0]
      exact ⟨by rw [decide_eq_true r0]; simp; rfl, hm⟩
    · simp only [↓VG_u, ↓UG_u, ↓MG_u, ↓NG_u, ↓PG_u, ↓BG_u, ↓CG_u, ↓IG_u, ↓VGtt, ↓VGtf, ↓VGft, ↓VGff, ↓UGtt, ↓UGtf, ↓UGft, ↓UGff, ↓MGtt, ↓MGtf, ↓MGft, ↓MGff, ↓NGtt, ↓NGtf, ↓NGft, ↓NGff, ↓PGtt, ↓PGtf, ↓PGft, ↓PGff, ↓BGtt, ↓BGtf, ↓BGft, ↓BGff, ↓CGtt, ↓CGtf, ↓CGft, ↓CGff, ↓IGtt, ↓IGtf, ↓IGft, ↓IGff, ↓PKt, ↓PKf, ↓CDt, ↓CDf, ↓NOTt, ↓NOTf, ↓NK_ptr, ↓EQf r0]
      exact ⟨by rw [decide_eq_false r0]; simp; rfl, hm⟩
  by_cases k19 : p.kind = 19
  · have e1 : rootedK p.kind = true := by rw [k19]; decide
    have e2 : reducesK p.kind = false := by rw [k19]; decide
    rw [e1, e2]
    simp only [↓VG_u, ↓UG_u, ↓MG_u, ↓NG_u, ↓PG_u, ↓BG_u, ↓CG_u, ↓IG_u, ↓VGtt, ↓VGtf, ↓VGft, ↓VGff, ↓UGtt, ↓UGtf, ↓UGft, ↓UGff, ↓MGtt, ↓MGtf, ↓MGft, ↓MGff, ↓NGtt, ↓NGtf, ↓NGft, ↓NGff, ↓PGtt, ↓PGtf, ↓PGft, ↓PGff, ↓BGtt, ↓BGtf, ↓BGft, ↓BGff, ↓CGtt, ↓CGtf, ↓CGft, ↓CGff, ↓IGtt, ↓IGtf, ↓IGft, ↓IGff, ↓PKt, ↓PKf, ↓CDt, ↓CDf, ↓NOTt, ↓NOTf, ↓NK_ptr, ↓EQf k16, ↓(fP0 hb).e, ↓EQf k17, ↓EQt k19, ↓EQf k18, ↓(fP2 hb).e]
    by_cases o0 : p.op = 0
    · simp only [↓VG_u, ↓UG_u, ↓MG_u, ↓NG_u, ↓PG_u, ↓BG_u, ↓CG_u, ↓IG_u, ↓VGtt, ↓VGtf, ↓VGft, ↓VGff, ↓UGtt, ↓UGtf, ↓UGft, ↓UGff, ↓MGtt, ↓MGtf, ↓MGft, ↓MGff, ↓NGtt, ↓NGtf, ↓NGft, ↓NGff, ↓PGtt, ↓PGtf, ↓PGft, ↓PGff, ↓BGtt, ↓BGtf, ↓BGft, ↓BGff, ↓CGtt, ↓CGtf, ↓CGft, ↓CGff, ↓IGtt, ↓IGtf, ↓IGft, ↓IGff, ↓PKt, ↓PKf, ↓CDt, ↓CDf, ↓NOTt, ↓NOTf, ↓NK_ptr, ↓EQt o0]
      exact ⟨by rw [decide_eq_true o0]; simp; rfl, hm⟩
    · simp only [↓VG_u, ↓UG_u, ↓MG_u, ↓NG_u, ↓PG_u, ↓BG_u, ↓CG_u, ↓IG_u, ↓VGtt, ↓VGtf, ↓VGft, ↓VGff, ↓UGtt, ↓UGtf, ↓UGft, ↓UGff, ↓MGtt, ↓MGtf, ↓MGft, ↓MGff, ↓NGtt, ↓NGtf, ↓NGft, ↓NGff, ↓PGtt, ↓PGtf, ↓PGft, ↓PGff, ↓BGtt, ↓BGtf, ↓BGft, ↓BGff, ↓CGtt, ↓CGtf, ↓CGft, ↓CGff, ↓IGtt, ↓IGtf, ↓IGft, ↓IGff, ↓PKt, ↓PKf, ↓CDt, ↓CDf, ↓NOTt, ↓NOTf, ↓NK_ptr, ↓EQf o0]
      exact ⟨by rw [decide_eq_false o0]; simp; rfl, hm⟩
  have e1 : rootedK p.kind = false := by unfold rootedK; rw [decide_eq_false k16, decide_eq_false k17, decide_eq_false k19]; rfl
  have e2 : reducesK p.kind = false := by unfold reducesK; rw [decide_eq_false k17, decide_eq_false k18]; rfl
  rw [e1, e2]
  simp only [↓VG_u, ↓UG_u, ↓MG_u, ↓NG_u, ↓PG_u, ↓BG_u, ↓CG_u, ↓IG_u, ↓VGtt, ↓VGtf, ↓VGft, ↓VGff, ↓UGtt, ↓UGtf, ↓UGft, ↓UGff, ↓MGtt, ↓MGtf, ↓MGft, ↓MGff, ↓NGtt, ↓NGtf, ↓NGft, ↓NGff, ↓PGtt, ↓PGtf, ↓PGft, ↓PGff, ↓BGtt, ↓BGtf, ↓BGft, ↓BGff, ↓CGtt, ↓CGtf, ↓CGft, ↓CGff, ↓IGtt, ↓IGtf, ↓IGft, ↓IGff, ↓PKt, ↓PKf, ↓CDt, ↓CDf, ↓NOTt, ↓NOTf, ↓NK_ptr, ↓EQf k16, ↓(fP0 hb).e, ↓EQf k17, ↓EQf k19, ↓EQf k18, ↓(fP1 hb).e]
  by_cases r0 : p.root = 0
  · simp only [↓VG_u, ↓UG_u, ↓MG_u, ↓NG_u, ↓PG_u, ↓BG_u, ↓CG_u, ↓IG_u, ↓VGtt, ↓VGtf, ↓VGft, ↓VGff, ↓UGtt, ↓UGtf, ↓UGft, ↓UGff, ↓MGtt, ↓MGtf, ↓MGft, ↓MGff, ↓NGtt, ↓NGtf, ↓NGft, ↓NGff, ↓PGtt, ↓PGtf, ↓PGft, ↓PGff, ↓BGtt, ↓BGtf, ↓BGft, ↓BGff, ↓CGtt, ↓CGtf, ↓CGft, ↓CGff, ↓IGtt, ↓IGtf, ↓IGft, ↓IGff, ↓PKt, ↓PKf, ↓CDt, ↓CDf, ↓NOTt, ↓NOTf, ↓NK_ptr, ↓EQt r0, ↓(fP2 hb).e]
    by_cases o0 : p.op = 0
    · simp only [↓VG_u, ↓UG_u, ↓MG_u, ↓NG_u, ↓PG_u, ↓BG_u, ↓CG_u, ↓IG_u, ↓VGtt, ↓VGtf, ↓VGft, ↓VGff, ↓UGtt, ↓UGtf, ↓UGft, ↓UGff, ↓MGtt, ↓MGtf, ↓MGft, ↓MGff, ↓NGtt, ↓NGtf, ↓NGft, ↓NGff, ↓PGtt, ↓PGtf, ↓PGft, ↓PGff, ↓BGtt, ↓BGtf, ↓BGft, ↓BGff, ↓CGtt, ↓CGtf, ↓CGft, ↓CGff, ↓IGtt, ↓IGtf, ↓IGft, ↓IGff, ↓PKt, ↓PKf, ↓CDt, ↓CDf, ↓NOTt, ↓NOTf, ↓NK_ptr, ↓EQt o0]
      exact ⟨by rw [decide_eq_true r0, decide_eq_true o0]; rfl, hm⟩
    · simp only [↓VG_u, ↓UG_u, ↓MG_u, ↓NG_u, ↓PG_u, ↓BG_u, ↓CG_u, ↓IG_u, ↓VGtt, ↓VGtf, ↓VGft, ↓VGff, ↓UGtt, ↓UGtf, ↓UGft, ↓UGff, ↓MGtt, ↓MGtf, ↓MGft, ↓MGff, ↓NGtt, ↓NGtf, ↓NGft, ↓NGff, ↓PGtt, ↓PGtf, ↓PGft, ↓PGff, ↓BGtt, ↓BGtf, ↓BGft, ↓BGff, ↓CGtt, ↓CGtf, ↓CGft, ↓CGff, ↓IGtt, ↓IGtf, ↓IGft, ↓IGff, ↓PKt, ↓PKf, ↓CDt, ↓CDf, ↓NOTt, ↓NOTf, ↓NK_ptr, ↓EQf o0]
      exact ⟨by rw [decide_eq_true r0, decide_eq_false o0]; rfl, hm⟩
  · simp only [↓VG_u, ↓UG_u, ↓MG_u, ↓NG_u, ↓PG_u, ↓BG_u, ↓CG_u, ↓IG_u, ↓VGtt, ↓VGtf, ↓VGft, ↓VGff, ↓UGtt, ↓UGtf, ↓UGft, ↓UGff, ↓MGtt, ↓MGtf, ↓MGft, ↓MGff, ↓NGtt, ↓NGtf, ↓NGft, ↓NGff, ↓PGtt, ↓PGtf, ↓PGft, ↓PGff, ↓BGtt, ↓BGtf, ↓BGft, ↓BGff, ↓CGtt, ↓CGtf, ↓CGft, ↓CGff, ↓IGtt, ↓IGtf, ↓IGft, ↓IGff, ↓PKt, ↓PKf, ↓CDt, ↓CDf, ↓NOTt, ↓NOTf, ↓NK_ptr, ↓EQf r0]
    exact ⟨by rw [decide_eq_false r0]; rfl, hm⟩
theorem mayPt_not {n : Nat} {p : Pt} (h : ¬ (15 ≤ p.kind ∧ p.kind ≤ 21 ∧ p.op ≤ 2 ∧ 0 ≤ p.root ∧ p.root < n)) : mayPt n p = false := by
  rw [Bool.eq_false_iff]
  intro q
  unfold mayPt at q
  simp only [Bool.and_eq_true, decide_eq_true_eq] at q
  exact h ⟨q.1.1.1.1, q.1.1.1.2, q.2.1, q.1.1.2.1, q.1.1.2.2⟩
theorem MayPD_ok {key : Ky} {v : Value} {r : List Int} (h : RR w v r) (p : Pt) : Rt Tryd.prog 20 #[grpV key v, p.v] w fun x w' => x = .bool (mayPt r.length p) ∧ Mod none_ w w' := by
  refine dispatcherref15_May_calls ?_
  unfold dispatcherref15_May_F
  refine box_k (cs := #[strV key, v]) rfl fun w1 hb1 hm1 hz1 => ?_
  refine box_k (cs := p.enc.toArray) rfl fun w2 hb2 hm2 hz2 => ?_
  have h1 := hm2.blk hb1 id
  have hm := hm1.trans hm2
  have bad : ∀ (ρ : Sl), ρ 32 = .bool true → mayPt r.length p = false → sx fn_ Tryd.prog 68 dispatcherref15_May_R0 (seqK (sx fn_ Tryd.prog 68 dispatcherref15_May_R1 (retK Tryd.prog [ResultVar.tmp 4] fun y w' => y = .bool (mayPt r.length p) ∧ Mod none_ w w')) (retK Tryd.prog [ResultVar.tmp 4] fun y w' => y = .bool (mayPt r.length p) ∧ Mod none_ w w')) ρ w2 := by
    intro ρ q e
    rw [e, dispatcherref15_May_R0_eq]; unfold dispatcherref15_May_R0_F
    rw [q]
    exact condT ⟨rfl, hm⟩
  simp only [↓(fP0 hb2).e]
  by_cases k0 : 15 ≤ p.kind
  case neg =>
    simp only [↓VG_u, ↓UG_u, ↓MG_u, ↓NG_u, ↓PG_u, ↓BG_u, ↓CG_u, ↓IG_u, ↓VGtt, ↓VGtf, ↓VGft, ↓VGff, ↓UGtt, ↓UGtf, ↓UGft, ↓UGff, ↓MGtt, ↓MGtf, ↓MGft, ↓MGff, ↓NGtt, ↓NGtf, ↓NGft, ↓NGff, ↓PGtt, ↓PGtf, ↓PGft, ↓PGff, ↓BGtt, ↓BGtf, ↓BGft, ↓BGff, ↓CGtt, ↓CGtf, ↓CGft, ↓CGff, ↓IGtt, ↓IGtf, ↓IGft, ↓IGff, ↓PKt, ↓PKf, ↓CDt, ↓CDf, ↓NOTt, ↓NOTf, ↓NK_ptr, ↓LTt (show p.kind < 15 by omega)]
    exact bad _ rfl (mayPt_not fun q => by omega)
  simp only [↓VG_u, ↓UG_u, ↓MG_u, ↓NG_u, ↓PG_u, ↓BG_u, ↓CG_u, ↓IG_u, ↓VGtt, ↓VGtf, ↓VGft, ↓VGff, ↓UGtt, ↓UGtf, ↓UGft, ↓UGff, ↓MGtt, ↓MGtf, ↓MGft, ↓MGff, ↓NGtt, ↓NGtf, ↓NGft, ↓NGff, ↓PGtt, ↓PGtf, ↓PGft, ↓PGff, ↓BGtt, ↓BGtf, ↓BGft, ↓BGff, ↓CGtt, ↓CGtf, ↓CGft, ↓CGff, ↓IGtt, ↓IGtf, ↓IGft, ↓IGff, ↓PKt, ↓PKf, ↓CDt, ↓CDf, ↓NOTt, ↓NOTf, ↓NK_ptr, ↓LTf k0, ↓(fP0 hb2).e]
  by_cases k1 : p.kind ≤ 21
  case neg =>
    simp only [↓VG_u, ↓UG_u, ↓MG_u, ↓NG_u, ↓PG_u, ↓BG_u, ↓CG_u, ↓IG_u, ↓VGtt, ↓VGtf, ↓VGft, ↓VGff, ↓UGtt, ↓UGtf, ↓UGft, ↓UGff, ↓MGtt, ↓MGtf, ↓MGft, ↓MGff, ↓NGtt, ↓NGtf, ↓NGft, ↓NGff, ↓PGtt, ↓PGtf, ↓PGft, ↓PGff, ↓BGtt, ↓BGtf, ↓BGft, ↓BGff, ↓CGtt, ↓CGtf, ↓CGft, ↓CGff, ↓IGtt, ↓IGtf, ↓IGft, ↓IGff, ↓PKt, ↓PKf, ↓CDt, ↓CDf, ↓NOTt, ↓NOTf, ↓NK_ptr, ↓GTt (show (21 : Int) < p.kind by omega)]
    exact bad _ rfl (mayPt_not fun q => by omega)
  simp only [↓VG_u, ↓UG_u, ↓MG_u, ↓NG_u, ↓PG_u, ↓BG_u, ↓CG_u, ↓IG_u, ↓VGtt, ↓VGtf, ↓VGft, ↓VGff, ↓UGtt, ↓UGtf, ↓UGft, ↓UGff, ↓MGtt, ↓MGtf, ↓MGft, ↓MGff, ↓NGtt, ↓NGtf, ↓NGft, ↓NGff, ↓PGtt, ↓PGtf, ↓PGft, ↓PGff, ↓BGtt, ↓BGtf, ↓BGft, ↓BGff, ↓CGtt, ↓CGtf, ↓CGft, ↓CGff, ↓IGtt, ↓IGtf, ↓IGft, ↓IGff, ↓PKt, ↓PKf, ↓CDt, ↓CDf, ↓NOTt, ↓NOTf, ↓NK_ptr, ↓GTf k1, ↓(fP2 hb2).e]
  by_cases o2 : p.op ≤ 2
  case neg =>
    simp only [↓VG_u, ↓UG_u, ↓MG_u, ↓NG_u, ↓PG_u, ↓BG_u, ↓CG_u, ↓IG_u, ↓VGtt, ↓VGtf, ↓VGft, ↓VGff, ↓UGtt, ↓UGtf, ↓UGft, ↓UGff, ↓MGtt, ↓MGtf, ↓MGft, ↓MGff, ↓NGtt, ↓NGtf, ↓NGft, ↓NGff, ↓PGtt, ↓PGtf, ↓PGft, ↓PGff, ↓BGtt, ↓BGtf, ↓BGft, ↓BGff, ↓CGtt, ↓CGtf, ↓CGft, ↓CGff, ↓IGtt, ↓IGtf, ↓IGft, ↓IGff, ↓PKt, ↓PKf, ↓CDt, ↓CDf, ↓NOTt, ↓NOTf, ↓NK_ptr, ↓GTt (show (2 : Int) < p.op by omega)]
    exact bad _ rfl (mayPt_not fun q => by omega)
  simp only [↓VG_u, ↓UG_u, ↓MG_u, ↓NG_u, ↓PG_u, ↓BG_u, ↓CG_u, ↓IG_u, ↓VGtt, ↓VGtf, ↓VGft, ↓VGff, ↓UGtt, ↓UGtf, ↓UGft, ↓UGff, ↓MGtt, ↓MGtf, ↓MGft, ↓MGff, ↓NGtt, ↓NGtf, ↓NGft, ↓NGff, ↓PGtt, ↓PGtf, ↓PGft, ↓PGff, ↓BGtt, ↓BGtf, ↓BGft, ↓BGff, ↓CGtt, ↓CGtf, ↓CGft, ↓CGff, ↓IGtt, ↓IGtf, ↓IGft, ↓IGff, ↓PKt, ↓PKf, ↓CDt, ↓CDf, ↓NOTt, ↓NOTf, ↓NK_ptr, ↓GTf o2, ↓(fP1 hb2).e]
  by_cases r0 : 0 ≤ p.root
  case neg =>
    simp only [↓VG_u, ↓UG_u, ↓MG_u, ↓NG_u, ↓PG_u, ↓BG_u, ↓CG_u, ↓IG_u, ↓VGtt, ↓VGtf, ↓VGft, ↓VGff, ↓UGtt, ↓UGtf, ↓UGft, ↓UGff, ↓MGtt, ↓MGtf, ↓MGft, ↓MGff, ↓NGtt, ↓NGtf, ↓NGft, ↓NGff, ↓PGtt, ↓PGtf, ↓PGft, ↓PGff, ↓BGtt, ↓BGtf, ↓BGft, ↓BGff, ↓CGtt, ↓CGtf, ↓CGft, ↓CGff, ↓IGtt, ↓IGtf, ↓IGft, ↓IGff, ↓PKt, ↓PKf, ↓CDt, ↓CDf, ↓NOTt, ↓NOTf, ↓NK_ptr, ↓LTt (show p.root < 0 by omega)]
    exact bad _ rfl (mayPt_not fun q => by omega)
  simp only [↓VG_u, ↓UG_u, ↓MG_u, ↓NG_u, ↓PG_u, ↓BG_u, ↓CG_u, ↓IG_u, ↓VGtt, ↓VGtf, ↓VGft, ↓VGff, ↓UGtt, ↓UGtf, ↓UGft, ↓UGff, ↓MGtt, ↓MGtf, ↓MGft, ↓MGff, ↓NGtt, ↓NGtf, ↓NGft, ↓NGff, ↓PGtt, ↓PGtf, ↓PGft, ↓PGff, ↓BGtt, ↓BGtf, ↓BGft, ↓BGff, ↓CGtt, ↓CGtf, ↓CGft, ↓CGff, ↓IGtt, ↓IGtf, ↓IGft, ↓IGff, ↓PKt, ↓PKf, ↓CDt, ↓CDf, ↓NOTt, ↓NOTf, ↓NK_ptr, ↓LTf r0, ↓(fP1 hb2).e, ↓(fG1 h1).e]
  obtain ⟨A, c, es, _⟩ := reads_cap h
  rw [es, len_sl vIs, ← es]
  by_cases r1 : p.root < r.length
  case neg =>
    simp only [↓VG_u, ↓UG_u, ↓MG_u, ↓NG_u, ↓PG_u, ↓BG_u, ↓CG_u, ↓IG_u, ↓VGtt, ↓VGtf, ↓VGft, ↓VGff, ↓UGtt, ↓UGtf, ↓UGft, ↓UGff, ↓MGtt, ↓MGtf, ↓MGft, ↓MGff, ↓NGtt, ↓NGtf, ↓NGft, ↓NGff, ↓PGtt, ↓PGtf, ↓PGft, ↓PGff, ↓BGtt, ↓BGtf, ↓BGft, ↓BGff, ↓CGtt, ↓CGtf, ↓CGft, ↓CGff, ↓IGtt, ↓IGtf, ↓IGft, ↓IGff, ↓PKt, ↓PKf, ↓CDt, ↓CDf, ↓NOTt, ↓NOTf, ↓NK_ptr, ↓GEt (show (r.length : Int) ≤ p.root by omega)]
    exact bad _ rfl (mayPt_not fun q => by omega)
  simp only [↓VG_u, ↓UG_u, ↓MG_u, ↓NG_u, ↓PG_u, ↓BG_u, ↓CG_u, ↓IG_u, ↓VGtt, ↓VGtf, ↓VGft, ↓VGff, ↓UGtt, ↓UGtf, ↓UGft, ↓UGff, ↓MGtt, ↓MGtf, ↓MGft, ↓MGff, ↓NGtt, ↓NGtf, ↓NGft, ↓NGff, ↓PGtt, ↓PGtf, ↓PGft, ↓PGff, ↓BGtt, ↓BGtf, ↓BGft, ↓BGff, ↓CGtt, ↓CGtf, ↓CGft, ↓CGff, ↓IGtt, ↓IGtf, ↓IGft, ↓IGff, ↓PKt, ↓PKf, ↓CDt, ↓CDf, ↓NOTt, ↓NOTf, ↓NK_ptr, ↓GEf r1]
  rw [dispatcherref15_May_R0_eq]; unfold dispatcherref15_May_R0_F
  refine condF ?_
  rw [sq_n]
  have := MayPD_R1 (ρ := _) hb2 (show (up (rho0 []) 3 (.pointer (some ⟨w1.heap.size, 0, none⟩)) : Sl) 3 = _ from rfl) hm
  have e : mayPt r.length p = ((decide (p.root = 0) || rootedK p.kind) && (decide (p.op = 0) || reducesK p.kind)) := by
    unfold mayPt
    rw [decide_eq_true k0, decide_eq_true k1, decide_eq_true r0, decide_eq_true r1, decide_eq_true o2]
    simp
  rw [e]
  exact MayPD_R1 hb2 rfl hm
end
end Go.Proofs.YtandbmnhghmcgaaDoor.Col
set_option linter.unusedVariables false
set_option linter.unusedSimpArgs false
set_option maxRecDepth 8000
namespace Go.X
open Go Go.RowKit
structure Bq where
  b : Br
  rv : Value
def Bq.enc (x : Bq) : List Value := [strV x.b.key, x.rv, .int .i64 x.b.rank] ++ x.b.p.enc
theorem Bq.enc_len (x : Bq) : x.enc.length = 8 + 1 := rfl
def BqAt (w : World) (g : Addr) (x : Bq) : Prop := ∀ j c, x.enc[j]? = some c → w.cell? (g.add j) = some c
theorem BK_eqK {P : Program} {w : World} {K : Value → World → Prop} (t : TypeId) (x y : Operand) (a b : Ky) : BK P .eql t x y (strV a) (strV b) w K = K (.bool (decide (a = b))) w := by
  by_cases h : a = b
  · rw [decide_eq_true h]
    unfold strV
    rw [SEQt (by rw [h])]
  · rw [decide_eq_false h]
    unfold strV
    rw [SEQf (fun q => h (by simpa using congrArg (fun b : ByteArray => b.data.toList) q))]
theorem BK_neK {P : Program} {w : World} {K : Value → World → Prop} (t : TypeId) (x y : Operand) (a b : Ky) : BK P .neq t x y (strV a) (strV b) w K = K (.bool (decide (a ≠ b))) w := by
  by_cases h : a = b
  · rw [decide_eq_false (by simpa using h)]
    unfold strV
    rw [SNEf (by rw [h])]
  · rw [decide_eq_true h]
    unfold strV
    rw [SNEt (fun q => h (by simpa using congrArg (fun b : ByteArray => b.data.toList) q))]
theorem partsC_app (L M : List Br) (key : Ky) (rank : Int) : partsC (L ++ M) key rank = partsC L key rank ++ partsC M key rank := by
  unfold partsC
  rw [List.filter_append, List.map_append]
theorem partsC_one (b : Br) (key : Ky) (rank : Int) : partsC [b] key rank = if atK key rank b then [b.p] else [] := by
  unfold partsC
  by_cases h : atK key rank b = true
  · rw [if_pos h]; simp [h]
  · rw [if_neg h]; simp [h]
theorem take_one {α : Type} {l : List α} {i : Nat} {x : α} (h : l[i]? = some x) : l.take (i + 1) = l.take i ++ [x] := by rw [List.take_add_one, h]; rfl
end Go.X
namespace Go.Proofs.YtandbmnhghmcgaaDoor.Col
open Go Go.X Go.RowKit Go.Proofs.YtandbmnhghmcgaaDoor.XF Go.Proofs.YtandbmnhghmcgaaDoor.XG Go.Proofs.YtandbmnhghmcgaaDoor.XI Go.Proofs.YtandbmnhghmcgaaDoor.XK
abbrev tDc : TypeId := 29
abbrev tBr : TypeId := 88
abbrev tBrs : TypeId := 27
theorem vBrs : Tryd.prog.underlying tBrs = some (.slice tBr) := Tryd.underlying27
theorem cBr : Tryd.prog.cellsOf tBr = 8 + 1 := by kernel_rfl
theorem eBrs : elemOk Tryd.prog tBrs tBr 9 96 = true := by kernel_rfl
theorem oB0 : fieldOff Tryd.prog tBr 0 = some 0 := by kernel_rfl
theorem oB1 : fieldOff Tryd.prog tBr 1 = some 2 := by kernel_rfl
theorem oB2 : fieldOff Tryd.prog tBr 2 = some 3 := by kernel_rfl
structure DAt (w : World) (B q : Nat) (loose : Bool) (L : List Br) (xs : List Bq) (sv : Value) : Prop where
  hq : B ≤ q
  blk : w.heap[q]? = some (.cells #[.bool loose, sv] tDc (0, 0))
  row : w.ownsRow B tBr 9 sv xs.length (xs.flatMap Bq.enc)
  rk : ∀ x ∈ xs, w.ownsRow B tI 1 x.rv x.b.ranks.length (ints x.b.ranks)
  eq : xs.map (·.b) = L
section
variable {w w' : World} {B q : Nat} {loose : Bool} {L : List Br} {xs : List Bq} {sv : Value}
theorem DAt.mod {S : Nat → Prop} (h : DAt w B q loose L xs sv) (hm : Mod S w w') (h1 : ∀ b, isT tDc w b → ¬ S b) (h2 : ∀ b, isT tBr w b → ¬ S b) (h3 : ∀ b, isT tI w b → ¬ S b) : DAt w' B q loose L xs sv :=
  ⟨h.hq, hm.blk h.blk (h1 _ ⟨_, _, h.blk⟩), owns_mod h.row hm fun b hb => h2 b (isT_own h.row hb), fun x hx => owns_mod (h.rk x hx) hm fun b hb => h3 b (isT_own (h.rk x hx) hb), h.eq⟩
theorem DAt.calm (h : DAt w B q loose L xs sv) (hm : Mod none_ w w') : DAt w' B q loose L xs sv := h.mod hm (fun _ _ => id) (fun _ _ => id) (fun _ _ => id)
theorem DAt.bring {p : Nat} {L2 : List Br} {V V' : CV} (h : DAt w B q loose L xs sv) {lo : Bool} (hc : CAt w p lo L2 V) (hf : CFr p w V w' V') : DAt w' B q loose L xs sv :=
  h.mod hf.mod (fun b hb z => hc.notT (by decide) (by decide) (by decide) (by decide) z hb) (fun b hb z => hc.notT (by decide) (by decide) (by decide) (by decide) z hb) (fun b hb z => hc.typ z hb)
theorem f_all2 (h : DAt w B q loose L xs sv) : FO Tryd.prog w tDc 1 1 ⟨q, 0, none⟩ tBrs sv := by
  obtain ⟨A, c, e, _⟩ := reads_cap (reads_of_owns h.row)
  have hb := h.blk
  rw [e] at hb ⊢
  exact FO.blk hb (by kernel_rfl) vBrs rfl rfl
theorem len2 (h : DAt w B q loose L xs sv) {ts : List Bool} {ty : TypeId} {K : Value → World → Prop} : IK Tryd.prog .len #[tBrs] ty ts [sv] w K = K (.int .i64 (L.length : Int)) w := by
  obtain ⟨A, c, e, _⟩ := reads_cap (reads_of_owns h.row)
  rw [e, len_sl vBrs, ← h.eq, List.length_map]
theorem brq (h : DAt w B q loose L xs sv) {i : Nat} {b : Br} (hi : L[i]? = some b) : ∃ rv g, RR w rv b.ranks ∧ (∀ w', (Instr.indexAt tBrs sv (.int .i64 (i : Int))).run Tryd.prog w' = .ok (.pointer (some g)) w') ∧ ∀ w', Mod none_ w w' → BqAt w' g ⟨b, rv⟩ := by
  rw [← h.eq, List.getElem?_map] at hi
  obtain ⟨x, hx, rfl⟩ := Option.map_eq_some_iff.1 hi
  obtain ⟨g, h1, h2⟩ := elIx vBrs cBr Bq.enc_len (reads_of_owns h.row) hx
  exact ⟨x.rv, g, reads_of_owns (h.rk x (List.mem_of_getElem? hx)), h1, h2⟩
theorem gBk {g : Addr} {x : Bq} (h : BqAt w g x) : FO Tryd.prog w tG 0 0 (g.add 0) 9 (strV x.b.key) := FO.mk' (by kernel_rfl) vS rfl (by rw [add_add]; exact h 0 _ rfl)
theorem gB1 {g : Addr} {x : Bq} (h : BqAt w g x) : FO Tryd.prog w tBr 1 2 g tI (.int .i64 x.b.rank) := FO.mk' oB1 vI rfl (h 2 _ rfl)
theorem gB0 {g : Addr} {x : Bq} (h : BqAt w g x) : FO Tryd.prog w tBr 0 0 g tG (grpV x.b.key x.rv) := ⟨oB0, fun K => by
  refine VK_eq_of (run_ldA (cs := [strV x.b.key, x.rv]) Tryd.underlying32 rfl (by kernel_rfl) fun j v hj => ?_)
  rw [add_add]
  match j, hj with
  | 0, hj => exact h 0 v hj
  | 1, hj => exact h 1 v hj
  | n + 2, hj => simp at hj⟩
theorem gB2 {g : Addr} {x : Bq} (h : BqAt w g x) : FO Tryd.prog w tBr 2 3 g tPt x.b.p.v := ⟨oB2, fun K => by
  refine VK_eq_of (run_ldA (cs := x.b.p.enc) Tryd.underlying34 rfl (by kernel_rfl) fun j v hj => ?_)
  rw [add_add]
  have hjl := (List.getElem?_eq_some_iff.1 hj).1
  refine h (3 + j) v ?_
  unfold Bq.enc
  rw [List.getElem?_append_right (by simp)]
  simpa using hj⟩
theorem many_R3 {N : Sl → World → Prop} {K0 : Exit → Sl → World → Prop} {ρ : Sl} {c : Bool} {m n : Nat} (q40 : ρ 40 = .bool c) (q7 : ρ 7 = .int .i64 m) (q8 : ρ 8 = .int .i64 n) (hm : m ≤ 1000000) (hn : n ≤ 1000000)
    (hN : ∀ ρ2 : Sl, (∀ i, i < 7 → ρ2 i = ρ i) → ρ2 7 = .int .i64 (m + (if c then 1 else 0) : Nat) → ρ2 8 = .int .i64 (n + 1 : Nat) → N ρ2 w) : sx fn_ Tryd.prog 44 dispatcherref15_Coll_Many_R3 (blkK 1 (seqK (sx fn_ Tryd.prog 44 dispatcherref15_Coll_Many_R2 (seqK N K0)) (seqK N K0))) ρ w := by
  rw [dispatcherref15_Coll_Many_R3_eq]; unfold dispatcherref15_Coll_Many_R3_F
  rw [q40]
  have nx : ∀ ρ2 : Sl, (∀ i, i < 7 → ρ2 i = ρ i) → ρ2 7 = .int .i64 (m + (if c then 1 else 0) : Nat) → ρ2 8 = .int .i64 n → sx fn_ Tryd.prog 44 dispatcherref15_Coll_Many_R2 (seqK N K0) ρ2 w := by
    intro ρ2 h2 h7 h8
    rw [dispatcherref15_Coll_Many_R2_eq]; unfold dispatcherref15_Coll_Many_R2_F
    rw [h8, BK_add, wrap_i (by omega) (by omega)]
    exact hN _ (fun i hi => by rw [← h2 i hi]; repeat rw [up_at, if_neg (by omega)]) h7 rfl
  cases c with
  | true =>
    refine condT ?_
    rw [q7, BK_add, wrap_i (by omega) (by omega), bk_n, sq_n]
    exact nx _ (fun i hi => by repeat rw [up_at, if_neg (by omega)]) rfl q8
  | false =>
    refine condF ?_
    rw [bk_n, sq_n]
    exact nx _ (fun i hi => rfl) q7 q8
theorem ManyD_ok (h : DAt w B q loose L xs sv) (hL : L.length ≤ 1000000) (key : Ky) (rank : Int) : Rt Tryd.prog 18 #[.pointer (some ⟨q, 0, none⟩), strV key, .int .i64 rank] w fun v w' => v = .int .i64 (partsC L key rank).length ∧ w' = w := by
  refine dispatcherref15_Coll_Many_calls ?_
  unfold dispatcherref15_Coll_Many_F
  refine W_loop dispatcherref15_Coll_Many_L0_ok (fun ρ w' => ∃ i : Nat, i ≤ L.length ∧ ρ 8 = .int .i64 i ∧ ρ 0 = .pointer (some ⟨q, 0, none⟩) ∧ ρ 1 = strV key ∧ ρ 2 = .int .i64 rank ∧ ρ 7 = .int .i64 (partsC (L.take i) key rank).length ∧ w' = w) (fun ρ _ => L.length - (intOf (ρ 8)).toNat)
    ⟨0, Nat.zero_le _, rfl, rfl, rfl, rfl, rfl, rfl⟩ ?_
  rintro ρ w1 ⟨i, hi, e8, e0, e1, e2, e7, ew⟩
  obtain rfl := ew.symm
  rw [dispatcherref15_Coll_Many_L0_eq]; unfold dispatcherref15_Coll_Many_L0_F
  rw [e8, e0, e1, e2]
  simp only [↓VG_u, ↓UG_u, ↓MG_u, ↓NG_u, ↓PG_u, ↓BG_u, ↓CG_u, ↓IG_u, ↓VGtt, ↓VGtf, ↓VGft, ↓VGff, ↓UGtt, ↓UGtf, ↓UGft, ↓UGff, ↓MGtt, ↓MGtf, ↓MGft, ↓MGff, ↓NGtt, ↓NGtf, ↓NGft, ↓NGff, ↓PGtt, ↓PGtf, ↓PGft, ↓PGff, ↓BGtt, ↓BGtf, ↓BGft, ↓BGff, ↓CGtt, ↓CGtf, ↓CGft, ↓CGff, ↓IGtt, ↓IGtf, ↓IGft, ↓IGff, ↓PKt, ↓PKf, ↓CDt, ↓CDf, ↓NOTt, ↓NOTf, ↓NK_ptr, ↓(f_all2 h).e]
  rw [len2 h, BK_lss]
  by_cases hlt : i < L.length
  case neg =>
    obtain rfl : i = L.length := by omega
    rw [decide_eq_false (by omega)]
    refine condF ?_
    rw [sq_x, bk_x, sq_n, dispatcherref15_Coll_Many_R1_eq]; unfold dispatcherref15_Coll_Many_R1_F
    rw [List.take_length] at e7
    refine ⟨?_, rfl⟩
    simp only [sq_n, sq_x, sq_r, bk_n, bk_r, bk_x, rt_r, rt_n, rs_0, rs_t, pk_1, pk_2, up_at, reduceIte, Nat.reduceEqDiff, e7]
    try rfl
  rw [decide_eq_true (by omega)]
  refine condT ?_
  have hx : L[i]? = some L[i] := List.getElem?_eq_getElem hlt
  have etk := take_one hx
  generalize L[i] = b at *
  obtain ⟨rv, g, hRR, hix, hat⟩ := brq h hx
  have hg := hat _ (Mod.refl _ _)
  have hpl := partsC_len (L.take i) key rank
  rw [List.length_take] at hpl
  have nxt : ∀ (ρ' ρ2 : Sl), (∀ i, i < 9 → ρ' i = ρ i) → (∀ i, i < 7 → ρ2 i = ρ' i) → ρ2 7 = .int .i64 ((partsC (L.take i) key rank).length + (if atK key rank b then 1 else 0) : Nat) → ρ2 8 = .int .i64 (i + 1 : Nat) → (∃ i : Nat, i ≤ L.length ∧ ρ2 8 = .int .i64 i ∧ ρ2 0 = .pointer (some ⟨q, 0, none⟩) ∧ ρ2 1 = strV key ∧ ρ2 2 = .int .i64 rank ∧ ρ2 7 = .int .i64 (partsC (L.take i) key rank).length ∧ w = w) ∧ L.length - (intOf (ρ2 8)).toNat < L.length - (intOf (.int .i64 (i : Int))).toNat := by
    intro ρ' ρ2 hs h2 h7 h8
    refine ⟨⟨i + 1, hlt, h8, ?_, ?_, ?_, ?_, rfl⟩, ?_⟩
    · exact ((h2 0 (by decide)).trans (hs 0 (by decide))).trans e0
    · exact ((h2 1 (by decide)).trans (hs 1 (by decide))).trans e1
    · exact ((h2 2 (by decide)).trans (hs 2 (by decide))).trans e2
    · rw [h7, etk, partsC_app, partsC_one, List.length_append]
      split <;> rfl
    · rw [h8]; simp only [intOf]; omega
  simp only [↓(f_all2 h).e]
  refine VK_of (hix _) ?_
  rw [fo oB0]
  simp only [↓(gBk hg).e]
  rw [BK_eqK]
  by_cases c1 : b.key = key
  · rw [decide_eq_true c1]
    simp only [↓VG_u, ↓UG_u, ↓MG_u, ↓NG_u, ↓PG_u, ↓BG_u, ↓CG_u, ↓IG_u, ↓VGtt, ↓VGtf, ↓VGft, ↓VGff, ↓UGtt, ↓UGtf, ↓UGft, ↓UGff, ↓MGtt, ↓MGtf, ↓MGft, ↓MGff, ↓NGtt, ↓NGtf, ↓NGft, ↓NGff, ↓PGtt, ↓PGtf, ↓PGft, ↓PGff, ↓BGtt, ↓BGtf, ↓BGft, ↓BGff, ↓CGtt, ↓CGtf, ↓CGft, ↓CGff, ↓IGtt, ↓IGtf, ↓IGft, ↓IGff, ↓PKt, ↓PKf, ↓CDt, ↓CDf, ↓NOTt, ↓NOTf, ↓NK_ptr, ↓(f_all2 h).e]
    refine VK_of (hix _) ?_
    simp only [↓(gB1 hg).e]
    rw [BK_eql]
    refine many_R3 (c := atK key rank b) (m := (partsC (L.take i) key rank).length) (n := i) ?_ ?_ ?_ (by omega) (by omega) fun ρ2 h2 h7 h8 => nxt _ ρ2 (fun i hi => by repeat rw [up_at, if_neg (by omega)]) h2 h7 h8
    · show Value.bool (b.rank == rank) = _
      unfold atK
      rw [decide_eq_true c1, Bool.true_and]
      rfl
    · exact e7
    · exact e8
  · rw [decide_eq_false c1]
    simp only [↓VG_u, ↓UG_u, ↓MG_u, ↓NG_u, ↓PG_u, ↓BG_u, ↓CG_u, ↓IG_u, ↓VGtt, ↓VGtf, ↓VGft, ↓VGff, ↓UGtt, ↓UGtf, ↓UGft, ↓UGff, ↓MGtt, ↓MGtf, ↓MGft, ↓MGff, ↓NGtt, ↓NGtf, ↓NGft, ↓NGff, ↓PGtt, ↓PGtf, ↓PGft, ↓PGff, ↓BGtt, ↓BGtf, ↓BGft, ↓BGff, ↓CGtt, ↓CGtf, ↓CGft, ↓CGff, ↓IGtt, ↓IGtf, ↓IGft, ↓IGff, ↓PKt, ↓PKf, ↓CDt, ↓CDf, ↓NOTt, ↓NOTf, ↓NK_ptr]
    refine many_R3 (c := atK key rank b) (m := (partsC (L.take i) key rank).length) (n := i) ?_ ?_ ?_ (by omega) (by omega) fun ρ2 h2 h7 h8 => nxt _ ρ2 (fun i hi => by repeat rw [up_at, if_neg (by omega)]) h2 h7 h8
    · show Value.bool false = _
      unfold atK
      rw [decide_eq_false c1, Bool.false_and]
    · exact e7
    · exact e8
def GrpP (w : World) (L : List Br) (key : Ky) (v : Value) : Prop :=
  (grpC L key = none ∧ v = .tuple #[.agg #[strV [], nilS], .bool false]) ∨ ∃ g rv, grpC L key = some g ∧ v = .tuple #[grpV key rv, .bool true] ∧ RR w rv g
theorem grp_take {L : List Br} {i : Nat} {b : Br} {key : Ky} (h : L[i]? = some b) (hn : grpC (L.take i) key = none) (hk : b.key = key) : grpC L key = some b.ranks := by
  have e : L = L.take (i + 1) ++ L.drop (i + 1) := (List.take_append_drop _ _).symm
  have h1 : grpC (L.take (i + 1)) key = some b.ranks := by
    rw [take_one h, grpC_snoc, hn]
    simp [hk]
  unfold grpC at h1 ⊢
  rw [e, List.find?_append]
  cases hf : (L.take (i + 1)).find? (fun b => decide (b.key = key)) with
  | none => rw [hf] at h1; simp at h1
  | some x => rw [hf] at h1; simpa using h1
theorem groupD_ok (h : DAt w B q loose L xs sv) (hL : L.length ≤ 1000000) (key : Ky) : Rt Tryd.prog 39 #[.pointer (some ⟨q, 0, none⟩), strV key] w fun v w' => GrpP w L key v ∧ Mod none_ w w' := by
  refine dispatcherref15_Coll_group_calls ?_
  unfold dispatcherref15_Coll_group_F
  refine al_k (cs := #[strV [], nilS]) zG rfl _ fun w1 hb1 hm1 hz1 => ?_
  have h' := h.calm hm1
  refine W_loop dispatcherref15_Coll_group_L0_ok (fun ρ w' => ∃ i : Nat, i ≤ L.length ∧ ρ 6 = .int .i64 i ∧ ρ 0 = .pointer (some ⟨q, 0, none⟩) ∧ ρ 1 = strV key ∧ ρ 4 = .pointer (some ⟨w.heap.size, 0, none⟩) ∧ grpC (L.take i) key = none ∧ w' = w1) (fun ρ _ => L.length - (intOf (ρ 6)).toNat)
    ⟨0, Nat.zero_le _, rfl, rfl, rfl, rfl, rfl, rfl⟩ ?_
  rintro ρ w2 ⟨i, hi, e6, e0, e1, e4, hno, ew⟩
  obtain rfl := ew.symm
  rw [dispatcherref15_Coll_group_L0_eq]; unfold dispatcherref15_Coll_group_L0_F
  rw [e6, e0, e1, e4]
  simp only [↓VG_u, ↓UG_u, ↓MG_u, ↓NG_u, ↓PG_u, ↓BG_u, ↓CG_u, ↓IG_u, ↓VGtt, ↓VGtf, ↓VGft, ↓VGff, ↓UGtt, ↓UGtf, ↓UGft, ↓UGff, ↓MGtt, ↓MGtf, ↓MGft, ↓MGff, ↓NGtt, ↓NGtf, ↓NGft, ↓NGff, ↓PGtt, ↓PGtf, ↓PGft, ↓PGff, ↓BGtt, ↓BGtf, ↓BGft, ↓BGff, ↓CGtt, ↓CGtf, ↓CGft, ↓CGff, ↓IGtt, ↓IGtf, ↓IGft, ↓IGff, ↓PKt, ↓PKf, ↓CDt, ↓CDf, ↓NOTt, ↓NOTf, ↓NK_ptr, ↓(f_all2 h').e]
  rw [len2 h', BK_lss]
  by_cases hlt : i < L.length
  case neg =>
    obtain rfl : i = L.length := by omega
    rw [decide_eq_false (by omega)]
    refine condF ?_
    rw [sq_x, bk_x, sq_n, dispatcherref15_Coll_group_R1_eq]; unfold dispatcherref15_Coll_group_R1_F
    rw [List.take_length] at hno
    rw [build_ok bG0]
    refine stS (old := #[strV [], nilS]) (cs := #[strV [], nilS]) (by first | exact e4 | rfl) rfl iG rfl (grp_one _ none 0 0) hb1 fun w3 hb3 hm3 hz3 => ?_
    refine rtCT (b := w.heap.size) (cs := #[strV [], nilS]) (by first | exact e4 | rfl) Tryd.underlying32 rfl iG hb3 (R := fun v w' => GrpP w L key v ∧ Mod none_ w w') ⟨.inl ⟨hno, rfl⟩, hm1.then hm3 fun i hi z => by omega⟩
  rw [decide_eq_true (by omega)]
  refine condT ?_
  have hx : L[i]? = some L[i] := List.getElem?_eq_getElem hlt
  have etk := take_one hx
  generalize L[i] = b at *
  obtain ⟨rv, g, hRR, hix, hat⟩ := brq h hx
  have hg := hat _ hm1
  simp only [↓(f_all2 h').e]
  refine VK_of (hix _) ?_
  rw [fo oB0]
  simp only [↓(gBk hg).e]
  rw [BK_eqK]
  by_cases c1 : b.key = key
  · rw [decide_eq_true c1]
    refine condT ?_
    simp only [↓VG_u, ↓UG_u, ↓MG_u, ↓NG_u, ↓PG_u, ↓BG_u, ↓CG_u, ↓IG_u, ↓VGtt, ↓VGtf, ↓VGft, ↓VGff, ↓UGtt, ↓UGtf, ↓UGft, ↓UGff, ↓MGtt, ↓MGtf, ↓MGft, ↓MGff, ↓NGtt, ↓NGtf, ↓NGft, ↓NGff, ↓PGtt, ↓PGtf, ↓PGft, ↓PGff, ↓BGtt, ↓BGtf, ↓BGft, ↓BGff, ↓CGtt, ↓CGtf, ↓CGft, ↓CGff, ↓IGtt, ↓IGtf, ↓IGft, ↓IGff, ↓PKt, ↓PKf, ↓CDt, ↓CDf, ↓NOTt, ↓NOTf, ↓NK_ptr, ↓(f_all2 h').e]
    refine VK_of (hix _) ?_
    simp only [↓(gB0 hg).e]
    obtain ⟨A, c, ev, _⟩ := reads_cap hRR
    refine stS (old := #[strV [], nilS]) (cs := #[strV b.key, rv]) rfl rfl iG rfl (by rw [ev]; exact grp_one _ _ _ _) hb1 fun w3 hb3 hm3 hz3 => ?_
    refine rtCT (b := w.heap.size) (cs := #[strV b.key, rv]) (by first | exact e4 | rfl) Tryd.underlying32 rfl iG hb3 (R := fun v w' => GrpP w L key v ∧ Mod none_ w w') ⟨.inr ⟨b.ranks, rv, grp_take hx hno c1, by rw [← c1]; rfl, hRR⟩, hm1.then hm3 fun i hi z => by omega⟩
  · rw [decide_eq_false c1]
    refine condF ?_
    rw [BK_add, wrap_i (by omega) (by omega)]
    refine ⟨⟨i + 1, hlt, rfl, e0, e1, e4, ?_, rfl⟩, ?_⟩
    · rw [etk, grpC_snoc, hno]
      simp [c1]
    · simp only [sq_n, sq_x, sq_r, bk_n, bk_r, bk_x, rt_r, rt_n, rs_0, rs_t, pk_1, pk_2, up_at, reduceIte, Nat.reduceEqDiff, intOf]; omega
end
end Go.Proofs.YtandbmnhghmcgaaDoor.Col
set_option linter.unusedVariables false
set_option linter.unusedSimpArgs false
set_option maxRecDepth 8000
namespace Go.Proofs.YtandbmnhghmcgaaDoor.Col
open Go Go.X Go.RowKit Go.Proofs.YtandbmnhghmcgaaDoor.XF Go.Proofs.YtandbmnhghmcgaaDoor.XG Go.Proofs.YtandbmnhghmcgaaDoor.XI Go.Proofs.YtandbmnhghmcgaaDoor.XK
theorem bBr (key : Ky) (A : Option Addr) (n c : Nat) (r : Int) (p : Pt) : Tryd.prog.built tBr [(0, .agg #[strV key, .slice A n c]), (1, .int .i64 r), (2, p.v)] = some (Bq.enc ⟨⟨key, [], r, p⟩, .slice A n c⟩).toArray := by kernel_rfl
theorem bBrs (key : Ky) (A : Option Addr) (n c : Nat) (r : Int) (p : Pt) : builtRow Tryd.prog tBrs 1 [(0, .agg (Bq.enc ⟨⟨key, [], r, p⟩, .slice A n c⟩).toArray)] = some (Bq.enc ⟨⟨key, [], r, p⟩, .slice A n c⟩).toArray := by kernel_rfl
theorem br_one (key : Ky) (A : Option Addr) (n c : Nat) (r : Int) (p : Pt) : (Bq.enc ⟨⟨key, [], r, p⟩, .slice A n c⟩).toArray.all (·.oneCell') = true := by kernel_rfl
section
variable {w w' : World} {B q : Nat} {loose : Bool} {L : List Br} {xs : List Bq} {sv : Value} {b : Br}
abbrev BringD (w0 : World) (B q : Nat) (loose : Bool) (L : List Br) (sv : Value) (b : Br) : Value → World → Prop := fun v w' => v = .tuple #[.int .i64 (bringC L b).2.1, .int .i64 (bringC L b).2.2] ∧ ∃ xs' sv', DAt w' B q loose (bringC L b).1 xs' sv' ∧ Mod (fun c => c = q ∨ sb sv c) w0 w'
theorem bringD_R2 {K : Exit → Sl → World → Prop} {ρ : Sl} {b5 b7 : Nat} {rv : Value} (h : DAt w B q loose L xs sv) (hB : B ≤ w.heap.size) (hL : L.length ≤ 1000000) (hR : RR w rv b.ranks) (hRl : b.ranks.length ≤ 64) (hb5 : w.heap[b5]? = some (.cells #[strV b.key, rv] tG (0, 0))) (hb7 : w.heap[b7]? = some (.cells b.p.enc.toArray tPt (0, 0)))
    (q0 : ρ 0 = .pointer (some ⟨q, 0, none⟩)) (q2 : ρ 2 = .int .i64 b.rank) (q5 : ρ 5 = .pointer (some ⟨b5, 0, none⟩)) (q7 : ρ 7 = .pointer (some ⟨b7, 0, none⟩))
    (hK : ∀ (ρ' : Sl) (w' : World) xs' sv', (∀ i, i < 15 → ρ' i = ρ i) → DAt w' B q loose (L ++ [b]) xs' sv' → Mod (fun c => c = q ∨ sb sv c) w w' → K .normal ρ' w') : W fn_ Tryd.prog 70 dispatcherref15_Coll_Bring_R2 K ρ w := by
  have hd : Mod none_ w { w with drawn := w.drawn + 1 } := (Mod.refl _ w).drawn _
  refine dispatcherref15_Coll_Bring_R2_held (D := []) (fun w' => w'.heap[b5]? = some (.cells #[strV b.key, rv] tG (0, 0)) ∧ w'.heap[b7]? = some (.cells b.p.enc.toArray tPt (0, 0))) ⟨hd.blk hb5 id, hd.blk hb7 id⟩ ?_
  have hsz : ({ w with drawn := w.drawn + 1 } : World).heap.size = w.heap.size := rfl
  generalize ({ w with drawn := w.drawn + 1 } : World) = wd at *
  unfold dispatcherref15_Coll_Bring_R2_H
  rw [q0, q2, q5, q7]
  refine HN_ptr (HV_of (v := .pointer (some ⟨q, 1, none⟩)) (fun w' _ => by rw [run_fo (show fieldOff Tryd.prog tDc 1 = some 1 by kernel_rfl), add_pl]) (HV_of (v := grpV b.key rv) (fun w' hw => run_ldB (cs := #[strV b.key, rv]) Tryd.underlying32 rfl iG hw.1) (HV_of (v := b.p.v) (fun w' hw => run_ldB Tryd.underlying34 rfl iPt hw.2) ?_)))
  have ldsv : ∀ {w' : World}, Mod none_ wd w' → (Instr.loadAt tBrs (.pointer (some ⟨q, 1, none⟩))).run Tryd.prog w' = .ok sv w' := fun {w'} hw => by
    have hbl := (h.calm (hd.trans hw)).blk
    obtain ⟨A, c, e, _⟩ := reads_cap (reads_of_owns h.row)
    rw [e] at hbl ⊢
    exact run_ld1 vBrs rfl (by rw [cell_blk hbl]; rfl)
  have st : ∀ {w' : World}, Mod none_ wd w' → w'.heap[b5]? = some (.cells #[strV b.key, rv] tG (0, 0)) ∧ w'.heap[b7]? = some (.cells b.p.enc.toArray tPt (0, 0)) := fun hw => ⟨(hd.trans hw).blk hb5 id, (hd.trans hw).blk hb7 id⟩
  have fin : ∀ (w2 : World) (rv' xv : Value) (Kf : Value → Value → Value → World → Prop), Mod none_ wd w2 → w2.ownsRow wd.heap.size tI 1 rv' b.ranks.length (ints b.ranks) → reads w2 9 xv 1 (Bq.enc ⟨b, rv'⟩) →
      (∀ (x66 : Value) (w' : World) xs', DAt w' B q loose (L ++ [b]) xs' x66 → Mod (fun c => c = q ∨ sb sv c) w w' → w'.heap[b5]? = some (.cells #[strV b.key, rv] tG (0, 0)) ∧ w'.heap[b7]? = some (.cells b.p.enc.toArray tPt (0, 0)) → Kf x66 (.pointer (some ⟨q, 0, none⟩)) (.pointer (some ⟨q, 1, none⟩)) w') →
      IK Tryd.prog .append #[tBrs, tBrs] tBrs [false, false] [sv, xv] w2 fun x66 w => (w.heap[b5]? = some (.cells #[strV b.key, rv] tG (0, 0)) ∧ w.heap[b7]? = some (.cells b.p.enc.toArray tPt (0, 0))) ∧
        (HK Tryd.prog (fun w' => w'.heap[b5]? = some (.cells #[strV b.key, rv] tG (0, 0)) ∧ w'.heap[b7]? = some (.cells b.p.enc.toArray tPt (0, 0))) (nilCk (.pointer (some ⟨q, 0, none⟩))) fun x67 => HK Tryd.prog (fun w' => w'.heap[b5]? = some (.cells #[strV b.key, rv] tG (0, 0)) ∧ w'.heap[b7]? = some (.cells b.p.enc.toArray tPt (0, 0))) (do pure (Next.value (← Instr.fieldAt tDc x67 1))) fun x68 => UK Tryd.prog (Instr.storeAt tBrs x68 x66) w fun _ w => (w.heap[b5]? = some (.cells #[strV b.key, rv] tG (0, 0)) ∧ w.heap[b7]? = some (.cells b.p.enc.toArray tPt (0, 0))) ∧ Kf x66 x67 x68 w) := by
    intro w2 rv' xv Kf hm2 ho hrd hKf
    have h2 := h.calm (hd.trans hm2)
    obtain ⟨A', c', e', _⟩ := reads_cap (reads_of_owns ho)
    have hone : ∀ u ∈ Bq.enc ⟨b, rv'⟩, u.oneCell' = true := fun u hu => by
      have := br_one b.key A' b.ranks.length c' b.rank b.p
      refine Array.all_eq_true'.1 this u ?_
      have e2 : Bq.enc ⟨b, rv'⟩ = Bq.enc ⟨⟨b.key, [], b.rank, b.p⟩, .slice A' b.ranks.length c'⟩ := by rw [e']; rfl
      rw [e2] at hu
      simpa using hu
    have hxl : xs.length = L.length := by rw [← h.eq, List.length_map]
    have hs2 := hm2.size
    refine ap_any eBrs h2.row hrd hone (by unfold maxLen; omega) (by omega) (by omega) fun x66 w3 ho3 hm3 hv3 => ?_
    have hm3' : Mod (fun c => sb sv c) w2 w3 := hm3.mono fun b _ z => z.symm
    have tb : ∀ {u : TypeId}, u ≠ tBr → ∀ b, isT u w2 b → ¬ sb sv b := fun hu b hb z => isT_ne hb (isT_own h2.row z) hu
    have s2 := st hm2
    have s3 : w3.heap[b5]? = some (.cells #[strV b.key, rv] tG (0, 0)) ∧ w3.heap[b7]? = some (.cells b.p.enc.toArray tPt (0, 0)) := ⟨hm3'.blk s2.1 (tb (by decide) _ ⟨_, _, s2.1⟩), hm3'.blk s2.2 (tb (by decide) _ ⟨_, _, s2.2⟩)⟩
    refine ⟨s3, HN_ptr (HV_of (v := .pointer (some ⟨q, 1, none⟩)) (fun w' _ => by rw [run_fo (show fieldOff Tryd.prog tDc 1 = some 1 by kernel_rfl), add_pl]) ?_)⟩
    have hq3 := hm3'.blk h2.blk (tb (by decide) _ ⟨_, _, h2.blk⟩)
    obtain ⟨A6, c6, e6, _⟩ := reads_cap (reads_of_owns ho3)
    refine stC (b := q) (o := 1) rfl (by kernel_rfl) (by rw [e6]; rfl) hq3 (by show 1 < 2; decide) fun w4 hq4 hm4 hz4 => ?_
    have tq : ∀ {u : TypeId}, u ≠ tDc → ∀ b, isT u w3 b → ¬ b = q := fun hu b hb z => by subst z; exact isT_ne hb ⟨_, _, hq3⟩ hu
    have s4 : w4.heap[b5]? = some (.cells #[strV b.key, rv] tG (0, 0)) ∧ w4.heap[b7]? = some (.cells b.p.enc.toArray tPt (0, 0)) := ⟨hm4.blk s3.1 (tq (by decide) _ ⟨_, _, s3.1⟩), hm4.blk s3.2 (tq (by decide) _ ⟨_, _, s3.2⟩)⟩
    refine ⟨s4, hKf x66 w4 (xs ++ [⟨b, rv'⟩]) ⟨h.hq, hq4, ?_, fun x hx => ?_, by rw [List.map_append, h.eq]; rfl⟩ ?_ s4⟩
    · have := owns_mod ho3 hm4 fun b hb => tq (by decide) b (isT_own ho3 hb)
      rw [List.length_append, List.flatMap_append]
      simpa using this
    · have row : w2.ownsRow B tI 1 x.rv x.b.ranks.length (ints x.b.ranks) := by
        rcases List.mem_append.1 hx with z | z
        · exact h2.rk x z
        · rw [List.mem_singleton.1 z]; exact owns_base ho (by omega)
      have r3 := owns_mod row hm3' fun b hb => tb (by decide) b (isT_own row hb)
      exact owns_mod r3 hm4 fun b hb => tq (by decide) b (isT_own r3 hb)
    · exact (((hd.trans hm2).mono fun _ _ z => z.elim).then (hm3'.mono (S' := fun c => c = q ∨ sb sv c) fun b _ z => .inr z) fun i hi z => z).then (hm4.mono (S' := fun c => c = q ∨ sb sv c) fun b _ z => .inl z) fun i hi z => z
  have copy : ∀ {w1 : World} {K' : Value → World → Prop}, Mod none_ wd w1 → (∀ rv' w2, w2.ownsRow wd.heap.size tI 1 rv' b.ranks.length (ints b.ranks) → Mod none_ wd w2 → K' (grpV b.key rv') w2) → CK Tryd.prog (.func (.func 43) #[] #[]) [grpV b.key rv] w1 K' := by
    intro w1 K' hm1 hk
    refine CK_st Tryd.func43 rfl rfl (CopyD_ok (hR.calm (hd.trans hm1)) (by omega)) ?_
    rintro _ w2 ⟨rv', rfl, ho, hm2⟩
    exact hk rv' w2 (owns_base ho hm1.size) (hm1.trans hm2)
  have bld : ∀ (rv' : Value) (w' : World), (∃ A n c, rv' = .slice A n c) → (Instr.build tBr [(0, grpV b.key rv'), (1, .int .i64 b.rank), (2, b.p.v)].toArray).run Tryd.prog w' = .ok (.agg (Bq.enc ⟨b, rv'⟩).toArray) w' := fun rv' w' ⟨A, n, c, e⟩ => by
    rw [e]
    exact run_build (P := Tryd.prog) w' _ _ _ (bBr b.key A n c b.rank b.p)
  have bsl : ∀ {rv' : Value} {w1 : World} {K' : Value → World → Prop}, (∃ A n c, rv' = .slice A n c) → (∀ xv w2, reads w2 9 xv 1 (Bq.enc ⟨b, rv'⟩) → Mod none_ w1 w2 → K' xv w2) → VK Tryd.prog (Instr.buildSlice tBrs 1 [(0, .agg (Bq.enc ⟨b, rv'⟩).toArray)].toArray) w1 K' := by
    rintro rv' w1 K' ⟨A, n, c, e⟩ hk
    subst e
    refine bs_k (bBrs b.key A n c b.rank b.p) fun w2 hb2 hm2 hz2 => ?_
    exact hk _ w2 (by show reads w2 9 _ 1 (Bq.enc ⟨⟨b.key, [], b.rank, b.p⟩, .slice A n c⟩); simpa using reads_blk (size := 9) (n := 1) hb2 (by simp [Bq.enc, Pt.enc])) hm2
  have slc : ∀ {w2 : World} {rv' : Value}, w2.ownsRow wd.heap.size tI 1 rv' b.ranks.length (ints b.ranks) → ∃ A n c, rv' = .slice A n c := fun ho => by
    obtain ⟨A, c, e, _⟩ := reads_cap (reads_of_owns ho)
    exact ⟨A, _, c, e⟩
  refine ⟨VK_of (ldsv (Mod.refl _ _)) ⟨st (Mod.refl _ _), copy (Mod.refl _ _) fun rv' w2 ho hm2 => ⟨st hm2, HV_of (fun w' _ => bld rv' w' (slc ho)) (bsl (slc ho) fun xv w3 hrd hm3 => ⟨st (hm2.trans hm3), fin w3 rv' xv _ (hm2.trans hm3) (owns_mod ho hm3 fun _ _ => id) hrd fun x66 w' xs' hD hmm hs => ?_⟩)⟩⟩,
    copy (Mod.refl _ _) fun rv' w2 ho hm2 => ⟨st hm2, HV_of (fun w' _ => bld rv' w' (slc ho)) ⟨VK_of (ldsv hm2) ⟨st hm2, bsl (slc ho) fun xv w3 hrd hm3 => ⟨st (hm2.trans hm3), fin w3 rv' xv _ (hm2.trans hm3) (owns_mod ho hm3 fun _ _ => id) hrd fun x66 w' xs' hD hmm hs => ?_⟩⟩,
      bsl (slc ho) fun xv w3 hrd hm3 => ⟨st (hm2.trans hm3), VK_of (ldsv (hm2.trans hm3)) ⟨st (hm2.trans hm3), fin w3 rv' xv _ (hm2.trans hm3) (owns_mod ho hm3 fun _ _ => id) hrd fun x66 w' xs' hD hmm hs => ?_⟩⟩⟩⟩⟩
  all_goals
    refine hK _ w' xs' x66 (fun i hi => ?_) hD hmm
    repeat rw [up_at, if_neg (by omega)]
end
end Go.Proofs.YtandbmnhghmcgaaDoor.Col
set_option linter.unusedVariables false
set_option linter.unusedSimpArgs false
set_option maxRecDepth 8000
namespace Go.Proofs.YtandbmnhghmcgaaDoor.Col
open Go Go.X Go.RowKit Go.Proofs.YtandbmnhghmcgaaDoor.XF Go.Proofs.YtandbmnhghmcgaaDoor.XG Go.Proofs.YtandbmnhghmcgaaDoor.XI Go.Proofs.YtandbmnhghmcgaaDoor.XK
section
variable {w w' : World} {B q : Nat} {loose : Bool} {L : List Br} {xs : List Bq} {sv : Value} {b : Br}
theorem okC_t {L : List Br} {b : Br} (h1 : mayG b.ranks = true) (h2 : b.rank ∈ b.ranks) (h3 : sameG L b.key b.ranks = true) (h4 : mayPt b.ranks.length b.p = true) : okC L b = true := by
  unfold okC
  rw [h1, h3, h4, decide_eq_true h2]; rfl
theorem BringD_ok (h : DAt w B q loose L xs sv) (hB : B ≤ w.heap.size) (hL : L.length ≤ 1000000) {rv : Value} (hR : RR w rv b.ranks) (hRl : b.ranks.length ≤ 64) : Rt Tryd.prog 13 #[.pointer (some ⟨q, 0, none⟩), grpV b.key rv, .int .i64 b.rank, b.p.v] w (BringD w B q loose L sv b) := by
  refine dispatcherref15_Coll_Bring_calls ?_
  unfold dispatcherref15_Coll_Bring_F
  refine box_k (cs := #[strV b.key, rv]) rfl fun w1 hb1 hm1 hz1 => ?_
  refine box_k (cs := b.p.enc.toArray) rfl fun w2 hb2 hm2 hz2 => ?_
  have hm02 := hm1.trans hm2
  have hb12 := hm2.blk hb1 id
  simp only [↓(fG0 hb12).e]
  refine CK_st Tryd.func39 rfl rfl (groupD_ok (h.calm hm02) hL b.key) ?_
  rintro v w3 ⟨hg, hm3⟩
  obtain ⟨k1, rv1, had, ev, hone, hcase⟩ : ∃ (k1 : Ky) (rv1 : Value) (had : Bool), v = .tuple #[grpV k1 rv1, .bool had] ∧ (#[strV k1, rv1] : Array Value).all (·.oneCell') = true ∧ ((had = false ∧ grpC L b.key = none) ∨ ∃ g, had = true ∧ k1 = b.key ∧ grpC L b.key = some g ∧ RR w2 rv1 g) := by
    rcases hg with ⟨hn, e⟩ | ⟨g, rv1, hs, e, hr⟩
    · exact ⟨[], nilS, false, e, grp_one _ none 0 0, .inl ⟨rfl, hn⟩⟩
    · obtain ⟨A, c, e', _⟩ := reads_cap hr
      exact ⟨b.key, rv1, true, e, by rw [e']; exact grp_one _ _ _ _, .inr ⟨g, rfl, rfl, hs, hr⟩⟩
  subst ev
  rw [extract_ok (v := grpV k1 rv1) rfl, extract_ok (v := .bool had) rfl]
  refine lcl_k (cs := #[strV k1, rv1]) zG _ iG rfl hone fun w4 hb4 hm4 hz4 => ?_
  have hm24 := hm3.trans hm4
  have hm04 := hm02.trans hm24
  have hb14 := hm24.blk hb12 id
  refine ldS (cs := #[strV b.key, rv]) rfl Tryd.underlying32 rfl iG hb14 ?_
  refine CK_st Tryd.func40 rfl rfl (NumberD_ok (key := b.key) (hR.calm hm04) (by omega) b.rank) ?_
  rintro _ w5 ⟨rfl, hm5⟩
  have hm05 := hm04.trans hm5
  have hb15 := hm5.blk hb14 id
  rw [extract_ok (v := .int .i64 (numI b.ranks b.rank)) rfl, extract_ok (v := .bool (decide (b.rank ∈ b.ranks))) rfl]
  refine ldS (cs := #[strV b.key, rv]) rfl Tryd.underlying32 rfl iG hb15 ?_
  refine CK_st Tryd.func41 rfl rfl (MayD_ok (key := b.key) (hR.calm hm05) hRl) ?_
  rintro _ w6 ⟨rfl, hm6⟩
  have hm06 := hm05.trans hm6
  have hb16 := hm6.blk hb15 id
  have hb26 := ((hm24.trans hm5).trans hm6).blk hb2 id
  have hb46 := (hm5.trans hm6).blk hb4 id
  have bad : ∀ {w7 : World} (ρ : Sl), Mod none_ w w7 → ρ 49 = .bool true → okC L b = false → sx fn_ Tryd.prog 70 dispatcherref15_Coll_Bring_R0 (seqK (sx fn_ Tryd.prog 70 dispatcherref15_Coll_Bring_R1 (retK Tryd.prog [ResultVar.tmp 8, ResultVar.tmp 9] (BringD w B q loose L sv b))) (retK Tryd.prog [ResultVar.tmp 8, ResultVar.tmp 9] (BringD w B q loose L sv b))) ρ w7 := by
    intro w7 ρ hm e hok
    rw [dispatcherref15_Coll_Bring_R0_eq]; unfold dispatcherref15_Coll_Bring_R0_F
    rw [e]
    refine condT ?_
    have hbr : bringC L b = (L, 0, 2) := by unfold bringC; rw [if_neg (by rw [hok]; simp)]
    show BringD w B q loose L sv b _ w7
    unfold BringD
    rw [hbr]
    exact ⟨rfl, xs, sv, h.calm hm, hm.mono fun _ _ z => z.elim⟩
  have good : ∀ {w7 : World} (ρ : Sl), Mod none_ w w7 → w7.heap[w.heap.size]? = some (.cells #[strV b.key, rv] tG (0, 0)) → w7.heap[w1.heap.size]? = some (.cells b.p.enc.toArray tPt (0, 0)) → ρ 49 = .bool false → ρ 0 = .pointer (some ⟨q, 0, none⟩) → ρ 2 = .int .i64 b.rank → ρ 5 = .pointer (some ⟨w.heap.size, 0, none⟩) → ρ 7 = .pointer (some ⟨w1.heap.size, 0, none⟩) → okC L b = true → sx fn_ Tryd.prog 70 dispatcherref15_Coll_Bring_R0 (seqK (sx fn_ Tryd.prog 70 dispatcherref15_Coll_Bring_R1 (retK Tryd.prog [ResultVar.tmp 8, ResultVar.tmp 9] (BringD w B q loose L sv b))) (retK Tryd.prog [ResultVar.tmp 8, ResultVar.tmp 9] (BringD w B q loose L sv b))) ρ w7 := by
    intro w7 ρ hm z5 z7 e q0 q2 q5 q7 hok
    rw [dispatcherref15_Coll_Bring_R0_eq]; unfold dispatcherref15_Coll_Bring_R0_F
    rw [e]
    refine condF ?_
    rw [sq_n, dispatcherref15_Coll_Bring_R1_eq]; unfold dispatcherref15_Coll_Bring_R1_F
    rw [q5, q0, q2]
    simp only [↓(fG0 z5).e]
    have h7 := h.calm hm
    refine CK_st Tryd.func18 rfl rfl (ManyD_ok h7 hL b.key b.rank) ?_
    rintro _ w8 ⟨rfl, e8⟩
    obtain rfl := e8.symm
    have hbr : bringC L b = (L ++ [b], ((partsC L b.key b.rank).length : Int), 0) := by unfold bringC; rw [if_pos hok]
    refine bringD_R2 h7 (Nat.le_trans hB hm.size) hL (hR.calm hm) hRl z5 z7 ?_ ?_ ?_ ?_ ?_
    · exact q0
    · exact q2
    · exact q5
    · exact q7
    intro ρ' w9 xs' sv' s hD hm9
    rw [sq_n, dispatcherref15_Coll_Bring_R3_eq]; unfold dispatcherref15_Coll_Bring_R3_F
    have e14 : ρ' 14 = .int .i64 (partsC L b.key b.rank).length := (s 14 (by decide)).trans rfl
    show BringD w B q loose L sv b (.tuple #[ρ' 14, .int .i64 0]) w9
    unfold BringD
    rw [hbr, e14]
    exact ⟨rfl, xs', sv', hD, (hm.mono fun _ _ z => z.elim).then hm9 fun i hi z => z⟩
  have no : ∀ {P : Prop}, okC L b = true → ¬ P → (okC L b = true → P) → False := fun h1 h2 h3 => h2 (h3 h1)
  have okf : (mayG b.ranks = false ∨ b.rank ∉ b.ranks ∨ sameG L b.key b.ranks = false ∨ mayPt b.ranks.length b.p = false) → okC L b = false := by
    intro hh
    unfold okC
    rcases hh with e | e | e | e
    · rw [e]; rfl
    · rw [decide_eq_false e]; simp
    · rw [e]; simp
    · rw [e]; simp
  have lastc : ∀ {w7 : World}, Mod none_ w6 w7 → mayG b.ranks = true → b.rank ∈ b.ranks → sameG L b.key b.ranks = true → ∀ (ρf : Value → Sl) (x47 : Value), True := fun _ _ _ _ _ _ => trivial
  cases c1 : mayG b.ranks with
  | false =>
    simp only [↓VG_u, ↓UG_u, ↓MG_u, ↓NG_u, ↓PG_u, ↓BG_u, ↓CG_u, ↓IG_u, ↓VGtt, ↓VGtf, ↓VGft, ↓VGff, ↓UGtt, ↓UGtf, ↓UGft, ↓UGff, ↓MGtt, ↓MGtf, ↓MGft, ↓MGff, ↓NGtt, ↓NGtf, ↓NGft, ↓NGff, ↓PGtt, ↓PGtf, ↓PGft, ↓PGff, ↓BGtt, ↓BGtf, ↓BGft, ↓BGff, ↓CGtt, ↓CGtf, ↓CGft, ↓CGff, ↓IGtt, ↓IGtf, ↓IGft, ↓IGff, ↓PKt, ↓PKf, ↓CDt, ↓CDf, ↓NOTt, ↓NOTf, ↓NK_ptr]
    exact bad _ hm06 rfl (okf (.inl c1))
  | true =>
  simp only [↓VG_u, ↓UG_u, ↓MG_u, ↓NG_u, ↓PG_u, ↓BG_u, ↓CG_u, ↓IG_u, ↓VGtt, ↓VGtf, ↓VGft, ↓VGff, ↓UGtt, ↓UGtf, ↓UGft, ↓UGff, ↓MGtt, ↓MGtf, ↓MGft, ↓MGff, ↓NGtt, ↓NGtf, ↓NGft, ↓NGff, ↓PGtt, ↓PGtf, ↓PGft, ↓PGff, ↓BGtt, ↓BGtf, ↓BGft, ↓BGff, ↓CGtt, ↓CGtf, ↓CGft, ↓CGff, ↓IGtt, ↓IGtf, ↓IGft, ↓IGff, ↓PKt, ↓PKf, ↓CDt, ↓CDf, ↓NOTt, ↓NOTf, ↓NK_ptr]
  by_cases c2 : b.rank ∈ b.ranks
  case neg =>
    rw [decide_eq_false c2]
    simp only [↓VG_u, ↓UG_u, ↓MG_u, ↓NG_u, ↓PG_u, ↓BG_u, ↓CG_u, ↓IG_u, ↓VGtt, ↓VGtf, ↓VGft, ↓VGff, ↓UGtt, ↓UGtf, ↓UGft, ↓UGff, ↓MGtt, ↓MGtf, ↓MGft, ↓MGff, ↓NGtt, ↓NGtf, ↓NGft, ↓NGff, ↓PGtt, ↓PGtf, ↓PGft, ↓PGff, ↓BGtt, ↓BGtf, ↓BGft, ↓BGff, ↓CGtt, ↓CGtf, ↓CGft, ↓CGff, ↓IGtt, ↓IGtf, ↓IGft, ↓IGff, ↓PKt, ↓PKf, ↓CDt, ↓CDf, ↓NOTt, ↓NOTf, ↓NK_ptr]
    exact bad _ hm06 rfl (okf (.inr (.inl c2)))
  rw [decide_eq_true c2]
  simp only [↓VG_u, ↓UG_u, ↓MG_u, ↓NG_u, ↓PG_u, ↓BG_u, ↓CG_u, ↓IG_u, ↓VGtt, ↓VGtf, ↓VGft, ↓VGff, ↓UGtt, ↓UGtf, ↓UGft, ↓UGff, ↓MGtt, ↓MGtf, ↓MGft, ↓MGff, ↓NGtt, ↓NGtf, ↓NGft, ↓NGff, ↓PGtt, ↓PGtf, ↓PGft, ↓PGff, ↓BGtt, ↓BGtf, ↓BGft, ↓BGff, ↓CGtt, ↓CGtf, ↓CGft, ↓CGff, ↓IGtt, ↓IGtf, ↓IGft, ↓IGff, ↓PKt, ↓PKf, ↓CDt, ↓CDf, ↓NOTt, ↓NOTf, ↓NK_ptr]
  rcases hcase with ⟨rfl, hn⟩ | ⟨g, rfl, rfl, hs, hr1⟩
  · have hsm : sameG L b.key b.ranks = true := by unfold sameG; rw [hn]
    simp only [↓VG_u, ↓UG_u, ↓MG_u, ↓NG_u, ↓PG_u, ↓BG_u, ↓CG_u, ↓IG_u, ↓VGtt, ↓VGtf, ↓VGft, ↓VGff, ↓UGtt, ↓UGtf, ↓UGft, ↓UGff, ↓MGtt, ↓MGtf, ↓MGft, ↓MGff, ↓NGtt, ↓NGtf, ↓NGft, ↓NGff, ↓PGtt, ↓PGtf, ↓PGft, ↓PGff, ↓BGtt, ↓BGtf, ↓BGft, ↓BGff, ↓CGtt, ↓CGtf, ↓CGft, ↓CGff, ↓IGtt, ↓IGtf, ↓IGft, ↓IGff, ↓PKt, ↓PKf, ↓CDt, ↓CDf, ↓NOTt, ↓NOTf, ↓NK_ptr]
    refine ldS (cs := #[strV b.key, rv]) rfl Tryd.underlying32 rfl iG hb16 ?_
    refine ldS (cs := b.p.enc.toArray) rfl Tryd.underlying34 rfl iPt hb26 ?_
    refine CK_st Tryd.func20 rfl rfl (MayPD_ok (key := b.key) (hR.calm hm06) b.p) ?_
    rintro _ w7 ⟨rfl, hm7⟩
    cases c4 : mayPt b.ranks.length b.p with
    | false =>
      simp only [↓VG_u, ↓UG_u, ↓MG_u, ↓NG_u, ↓PG_u, ↓BG_u, ↓CG_u, ↓IG_u, ↓VGtt, ↓VGtf, ↓VGft, ↓VGff, ↓UGtt, ↓UGtf, ↓UGft, ↓UGff, ↓MGtt, ↓MGtf, ↓MGft, ↓MGff, ↓NGtt, ↓NGtf, ↓NGft, ↓NGff, ↓PGtt, ↓PGtf, ↓PGft, ↓PGff, ↓BGtt, ↓BGtf, ↓BGft, ↓BGff, ↓CGtt, ↓CGtf, ↓CGft, ↓CGff, ↓IGtt, ↓IGtf, ↓IGft, ↓IGff, ↓PKt, ↓PKf, ↓CDt, ↓CDf, ↓NOTt, ↓NOTf, ↓NK_ptr]
      exact bad _ (hm06.trans hm7) rfl (okf (.inr (.inr (.inr c4))))
    | true =>
      simp only [↓VG_u, ↓UG_u, ↓MG_u, ↓NG_u, ↓PG_u, ↓BG_u, ↓CG_u, ↓IG_u, ↓VGtt, ↓VGtf, ↓VGft, ↓VGff, ↓UGtt, ↓UGtf, ↓UGft, ↓UGff, ↓MGtt, ↓MGtf, ↓MGft, ↓MGff, ↓NGtt, ↓NGtf, ↓NGft, ↓NGff, ↓PGtt, ↓PGtf, ↓PGft, ↓PGff, ↓BGtt, ↓BGtf, ↓BGft, ↓BGff, ↓CGtt, ↓CGtf, ↓CGft, ↓CGff, ↓IGtt, ↓IGtf, ↓IGft, ↓IGff, ↓PKt, ↓PKf, ↓CDt, ↓CDf, ↓NOTt, ↓NOTf, ↓NK_ptr]
      exact good _ (hm06.trans hm7) (hm7.blk hb16 id) (hm7.blk hb26 id) rfl rfl rfl rfl rfl (okC_t c1 c2 hsm c4)
  · have hsm : sameG L b.key b.ranks = decide (g = b.ranks) := by unfold sameG; rw [hs]
    simp only [↓VG_u, ↓UG_u, ↓MG_u, ↓NG_u, ↓PG_u, ↓BG_u, ↓CG_u, ↓IG_u, ↓VGtt, ↓VGtf, ↓VGft, ↓VGff, ↓UGtt, ↓UGtf, ↓UGft, ↓UGff, ↓MGtt, ↓MGtf, ↓MGft, ↓MGff, ↓NGtt, ↓NGtf, ↓NGft, ↓NGff, ↓PGtt, ↓PGtf, ↓PGft, ↓PGff, ↓BGtt, ↓BGtf, ↓BGft, ↓BGff, ↓CGtt, ↓CGtf, ↓CGft, ↓CGff, ↓IGtt, ↓IGtf, ↓IGft, ↓IGff, ↓PKt, ↓PKf, ↓CDt, ↓CDf, ↓NOTt, ↓NOTf, ↓NK_ptr]
    refine ldS (cs := #[strV b.key, rv1]) rfl Tryd.underlying32 rfl iG hb46 ?_
    refine ldS (cs := #[strV b.key, rv]) rfl Tryd.underlying32 rfl iG hb16 ?_
    have hgm : g.length ≤ maxLen := by
      obtain ⟨x, hx, hk, hr⟩ := grpC_some hs
      have hx2 := hx
      rw [← h.eq] at hx2
      obtain ⟨y, hy, rfl⟩ := List.mem_map.1 hx2
      rw [← hr]
      exact owns_max (h.rk y hy)
    refine CK_st Tryd.func42 rfl rfl (SameD_ok (k1 := b.key) (k2 := b.key) (hr1.calm ((hm24.trans hm5).trans hm6)) (hR.calm hm06) hgm) ?_
    rintro _ w7 ⟨rfl, hm7⟩
    rw [decide_eq_true (p := b.key = b.key) rfl, Bool.true_and, ← hsm]
    have hm07 := hm06.trans hm7
    cases c3 : sameG L b.key b.ranks with
    | false =>
      simp only [↓VG_u, ↓UG_u, ↓MG_u, ↓NG_u, ↓PG_u, ↓BG_u, ↓CG_u, ↓IG_u, ↓VGtt, ↓VGtf, ↓VGft, ↓VGff, ↓UGtt, ↓UGtf, ↓UGft, ↓UGff, ↓MGtt, ↓MGtf, ↓MGft, ↓MGff, ↓NGtt, ↓NGtf, ↓NGft, ↓NGff, ↓PGtt, ↓PGtf, ↓PGft, ↓PGff, ↓BGtt, ↓BGtf, ↓BGft, ↓BGff, ↓CGtt, ↓CGtf, ↓CGft, ↓CGff, ↓IGtt, ↓IGtf, ↓IGft, ↓IGff, ↓PKt, ↓PKf, ↓CDt, ↓CDf, ↓NOTt, ↓NOTf, ↓NK_ptr]
      exact bad _ hm07 rfl (okf (.inr (.inr (.inl c3))))
    | true =>
      simp only [↓VG_u, ↓UG_u, ↓MG_u, ↓NG_u, ↓PG_u, ↓BG_u, ↓CG_u, ↓IG_u, ↓VGtt, ↓VGtf, ↓VGft, ↓VGff, ↓UGtt, ↓UGtf, ↓UGft, ↓UGff, ↓MGtt, ↓MGtf, ↓MGft, ↓MGff, ↓NGtt, ↓NGtf, ↓NGft, ↓NGff, ↓PGtt, ↓PGtf, ↓PGft, ↓PGff, ↓BGtt, ↓BGtf, ↓BGft, ↓BGff, ↓CGtt, ↓CGtf, ↓CGft, ↓CGff, ↓IGtt, ↓IGtf, ↓IGft, ↓IGff, ↓PKt, ↓PKf, ↓CDt, ↓CDf, ↓NOTt, ↓NOTf, ↓NK_ptr]
      refine ldS (cs := #[strV b.key, rv]) rfl Tryd.underlying32 rfl iG (hm7.blk hb16 id) ?_
      refine ldS (cs := b.p.enc.toArray) rfl Tryd.underlying34 rfl iPt (hm7.blk hb26 id) ?_
      refine CK_st Tryd.func20 rfl rfl (MayPD_ok (key := b.key) (hR.calm hm07) b.p) ?_
      rintro _ w8 ⟨rfl, hm8⟩
      have hm08 := hm07.trans hm8
      cases c4 : mayPt b.ranks.length b.p with
      | false =>
        simp only [↓VG_u, ↓UG_u, ↓MG_u, ↓NG_u, ↓PG_u, ↓BG_u, ↓CG_u, ↓IG_u, ↓VGtt, ↓VGtf, ↓VGft, ↓VGff, ↓UGtt, ↓UGtf, ↓UGft, ↓UGff, ↓MGtt, ↓MGtf, ↓MGft, ↓MGff, ↓NGtt, ↓NGtf, ↓NGft, ↓NGff, ↓PGtt, ↓PGtf, ↓PGft, ↓PGff, ↓BGtt, ↓BGtf, ↓BGft, ↓BGff, ↓CGtt, ↓CGtf, ↓CGft, ↓CGff, ↓IGtt, ↓IGtf, ↓IGft, ↓IGff, ↓PKt, ↓PKf, ↓CDt, ↓CDf, ↓NOTt, ↓NOTf, ↓NK_ptr]
        exact bad _ hm08 rfl (okf (.inr (.inr (.inr c4))))
      | true =>
        simp only [↓VG_u, ↓UG_u, ↓MG_u, ↓NG_u, ↓PG_u, ↓BG_u, ↓CG_u, ↓IG_u, ↓VGtt, ↓VGtf, ↓VGft, ↓VGff, ↓UGtt, ↓UGtf, ↓UGft, ↓UGff, ↓MGtt, ↓MGtf, ↓MGft, ↓MGff, ↓NGtt, ↓NGtf, ↓NGft, ↓NGff, ↓PGtt, ↓PGtf, ↓PGft, ↓PGff, ↓BGtt, ↓BGtf, ↓BGft, ↓BGff, ↓CGtt, ↓CGtf, ↓CGft, ↓CGff, ↓IGtt, ↓IGtf, ↓IGft, ↓IGff, ↓PKt, ↓PKf, ↓CDt, ↓CDf, ↓NOTt, ↓NOTf, ↓NK_ptr]
        exact good _ hm08 ((hm7.trans hm8).blk hb16 id) ((hm7.trans hm8).blk hb26 id) rfl rfl rfl rfl rfl (okC_t c1 c2 c3 c4)
end
end Go.Proofs.YtandbmnhghmcgaaDoor.Col
set_option linter.unusedVariables false
set_option linter.unusedSimpArgs false
set_option maxRecDepth 8000
namespace Go.Proofs.YtandbmnhghmcgaaDoor.Col
open Go Go.X Go.RowKit Go.Proofs.YtandbmnhghmcgaaDoor.XF Go.Proofs.YtandbmnhghmcgaaDoor.XG Go.Proofs.YtandbmnhghmcgaaDoor.XI Go.Proofs.YtandbmnhghmcgaaDoor.XK
section
variable {w w' : World} {B q : Nat} {loose : Bool} {L : List Br} {xs : List Bq} {sv : Value} {b : Br}
theorem partC_here {i : Nat} {key : Ky} {rank k : Int} (hx : L[i]? = some b) (ha : atK key rank b = true) (hk : k = ((partsC (L.take i) key rank).length : Int)) : partC L key rank k = some b.p := by
  have e : L = (L.take i ++ [b]) ++ L.drop (i + 1) := by rw [← take_one hx]; exact (List.take_append_drop _ _).symm
  have hP : partsC L key rank = partsC (L.take i) key rank ++ ([b.p] ++ partsC (L.drop (i + 1)) key rank) := by
    conv => lhs; rw [e]
    rw [partsC_app, partsC_app, partsC_one, if_pos ha, List.append_assoc]
  unfold partC nthC
  rw [if_pos (by omega), hk, Int.toNat_natCast, hP, List.getElem?_append_right (Nat.le_refl _), Nat.sub_self]
  rfl
theorem part_R2 {N : Sl → World → Prop} {K0 : Exit → Sl → World → Prop} {ρ : Sl} {n : Nat} (q10 : ρ 10 = .int .i64 n) (hn : n ≤ 1000000) (hN : ∀ ρ2 : Sl, (∀ i, i < 10 → ρ2 i = ρ i) → ρ2 10 = .int .i64 (n + 1 : Nat) → N ρ2 w) : sx fn_ Tryd.prog 56 dispatcherref15_Coll_Part_R2 (seqK N K0) ρ w := by
  rw [dispatcherref15_Coll_Part_R2_eq]; unfold dispatcherref15_Coll_Part_R2_F
  rw [q10, BK_add, wrap_i (by omega) (by omega)]
  exact hN _ (fun i hi => by repeat rw [up_at, if_neg (by omega)]) rfl
theorem PartD_ok (h : DAt w B q loose L xs sv) (hL : L.length ≤ 1000000) (key : Ky) (rank : Int) {k : Int} (hk0 : 0 ≤ k) (hk1 : k ≤ 9223372036854775807) : Rt Tryd.prog 64 #[.pointer (some ⟨q, 0, none⟩), strV key, .int .i64 rank, .int .i64 k] w fun v w' => v = .tuple #[((partC L key rank k).getD zPt).v, .bool (partC L key rank k).isSome] ∧ Mod none_ w w' := by
  refine dispatcherref15_Coll_Part_calls ?_
  unfold dispatcherref15_Coll_Part_F
  refine al_k (cs := zPt.enc.toArray) zPt_z rfl _ fun w1 hb1 hm1 hz1 => ?_
  have h' := h.calm hm1
  refine W_loop dispatcherref15_Coll_Part_L0_ok (fun ρ w' => ∃ i : Nat, i ≤ L.length ∧ ρ 10 = .int .i64 i ∧ ρ 0 = .pointer (some ⟨q, 0, none⟩) ∧ ρ 1 = strV key ∧ ρ 2 = .int .i64 rank ∧ ρ 3 = .int .i64 (k - (partsC (L.take i) key rank).length) ∧ ((partsC (L.take i) key rank).length : Int) ≤ k ∧ ρ 8 = .pointer (some ⟨w.heap.size, 0, none⟩) ∧ w' = w1) (fun ρ _ => L.length - (intOf (ρ 10)).toNat)
    ⟨0, Nat.zero_le _, rfl, rfl, rfl, rfl, by simp [partsC]; rfl, by simpa [partsC] using hk0, rfl, rfl⟩ ?_
  rintro ρ w2 ⟨i, hi, e10, e0, e1, e2, e3, hc, e8, ew⟩
  obtain rfl := ew.symm
  rw [dispatcherref15_Coll_Part_L0_eq]; unfold dispatcherref15_Coll_Part_L0_F
  rw [e10, e0, e1, e2]
  simp only [↓VG_u, ↓UG_u, ↓MG_u, ↓NG_u, ↓PG_u, ↓BG_u, ↓CG_u, ↓IG_u, ↓VGtt, ↓VGtf, ↓VGft, ↓VGff, ↓UGtt, ↓UGtf, ↓UGft, ↓UGff, ↓MGtt, ↓MGtf, ↓MGft, ↓MGff, ↓NGtt, ↓NGtf, ↓NGft, ↓NGff, ↓PGtt, ↓PGtf, ↓PGft, ↓PGff, ↓BGtt, ↓BGtf, ↓BGft, ↓BGff, ↓CGtt, ↓CGtf, ↓CGft, ↓CGff, ↓IGtt, ↓IGtf, ↓IGft, ↓IGff, ↓PKt, ↓PKf, ↓CDt, ↓CDf, ↓NOTt, ↓NOTf, ↓NK_ptr, ↓(f_all2 h').e]
  rw [len2 h', BK_lss]
  by_cases hlt : i < L.length
  case neg =>
    obtain rfl : i = L.length := by omega
    rw [decide_eq_false (by omega)]
    refine condF ?_
    rw [sq_x, bk_x, sq_n, dispatcherref15_Coll_Part_R1_eq]; unfold dispatcherref15_Coll_Part_R1_F
    rw [List.take_length] at hc
    have hp : partC L key rank k = none := by
      unfold partC nthC
      rw [if_pos hk0]
      exact List.getElem?_eq_none (by omega)
    rw [build_ok zPt_b]
    refine stS (old := zPt.enc.toArray) (cs := zPt.enc.toArray) (by first | exact e8 | rfl) rfl iPt rfl (Pt.enc_one _) hb1 fun w3 hb3 hm3 hz3 => ?_
    refine rtCT (b := w.heap.size) (cs := zPt.enc.toArray) (by first | exact e8 | rfl) Tryd.underlying34 rfl iPt hb3 (R := fun v w' => v = .tuple #[((partC L key rank k).getD zPt).v, .bool (partC L key rank k).isSome] ∧ Mod none_ w w') ⟨by rw [hp]; rfl, hm1.then hm3 fun i hi z => by omega⟩
  rw [decide_eq_true (by omega)]
  refine condT ?_
  have hx : L[i]? = some L[i] := List.getElem?_eq_getElem hlt
  have etk := take_one hx
  generalize L[i] = b at *
  obtain ⟨rv, g, hRR, hix, hat⟩ := brq h hx
  have hg := hat _ hm1
  have hpl := partsC_len (L.take i) key rank
  rw [List.length_take] at hpl
  simp only [↓(f_all2 h').e]
  refine VK_of (hix _) ?_
  rw [fo oB0]
  simp only [↓(gBk hg).e]
  rw [BK_neK]
  have skip : ∀ (ρ' : Sl), atK key rank b = false → ρ' 42 = .bool true → (∀ i, i < 11 → ρ' i = ρ i) → ∀ {N : Sl → World → Prop} {K0 : Exit → Sl → World → Prop}, (∀ ρ2 : Sl, (∀ i, i < 10 → ρ2 i = ρ' i) → ρ2 10 = .int .i64 (i + 1 : Nat) → N ρ2 w1) → sx fn_ Tryd.prog 56 dispatcherref15_Coll_Part_R3 (seqK (sx fn_ Tryd.prog 56 dispatcherref15_Coll_Part_R4 (blkK 1 (seqK (sx fn_ Tryd.prog 56 dispatcherref15_Coll_Part_R2 (seqK N K0)) (seqK N K0)))) (blkK 1 (seqK (sx fn_ Tryd.prog 56 dispatcherref15_Coll_Part_R2 (seqK N K0)) (seqK N K0)))) ρ' w1 := by
    intro ρ' ha q42 hs N K0 hN
    rw [dispatcherref15_Coll_Part_R3_eq]; unfold dispatcherref15_Coll_Part_R3_F
    rw [q42]
    refine condT ?_
    rw [sq_x, bk_x, sq_n]
    exact part_R2 ((hs 10 (by decide)).trans e10) (by omega) hN
  by_cases c1 : b.key = key
  case neg =>
    rw [decide_eq_true (by simpa using c1)]
    have ha : atK key rank b = false := by unfold atK; rw [decide_eq_false c1]; rfl
    simp only [↓VG_u, ↓UG_u, ↓MG_u, ↓NG_u, ↓PG_u, ↓BG_u, ↓CG_u, ↓IG_u, ↓VGtt, ↓VGtf, ↓VGft, ↓VGff, ↓UGtt, ↓UGtf, ↓UGft, ↓UGff, ↓MGtt, ↓MGtf, ↓MGft, ↓MGff, ↓NGtt, ↓NGtf, ↓NGft, ↓NGff, ↓PGtt, ↓PGtf, ↓PGft, ↓PGff, ↓BGtt, ↓BGtf, ↓BGft, ↓BGff, ↓CGtt, ↓CGtf, ↓CGft, ↓CGff, ↓IGtt, ↓IGtf, ↓IGft, ↓IGff, ↓PKt, ↓PKf, ↓CDt, ↓CDf, ↓NOTt, ↓NOTf, ↓NK_ptr]
    refine skip _ ha rfl (fun i hi => by repeat rw [up_at, if_neg (by omega)]) fun ρ2 h2 h10 => ?_
    have s : ∀ i, i < 10 → ρ2 i = ρ i := fun i hi => by
      rw [h2 i hi]
      repeat rw [up_at, if_neg (by omega)]
    refine ⟨⟨i + 1, hlt, h10, (s 0 (by decide)).trans e0, (s 1 (by decide)).trans e1, (s 2 (by decide)).trans e2, ?_, ?_, (s 8 (by decide)).trans e8, rfl⟩, ?_⟩
    · rw [etk, partsC_app, partsC_one, if_neg (by rw [ha]; simp), List.append_nil]; exact (s 3 (by decide)).trans e3
    · rw [etk, partsC_app, partsC_one, if_neg (by rw [ha]; simp), List.append_nil]; exact hc
    · rw [h10]; simp only [intOf]; omega
  rw [decide_eq_false (by simpa using c1)]
  simp only [↓VG_u, ↓UG_u, ↓MG_u, ↓NG_u, ↓PG_u, ↓BG_u, ↓CG_u, ↓IG_u, ↓VGtt, ↓VGtf, ↓VGft, ↓VGff, ↓UGtt, ↓UGtf, ↓UGft, ↓UGff, ↓MGtt, ↓MGtf, ↓MGft, ↓MGff, ↓NGtt, ↓NGtf, ↓NGft, ↓NGff, ↓PGtt, ↓PGtf, ↓PGft, ↓PGff, ↓BGtt, ↓BGtf, ↓BGft, ↓BGff, ↓CGtt, ↓CGtf, ↓CGft, ↓CGff, ↓IGtt, ↓IGtf, ↓IGft, ↓IGff, ↓PKt, ↓PKf, ↓CDt, ↓CDf, ↓NOTt, ↓NOTf, ↓NK_ptr, ↓(f_all2 h').e]
  refine VK_of (hix _) ?_
  simp only [↓(gB1 hg).e]
  by_cases c2 : b.rank = rank
  case neg =>
    simp only [↓VG_u, ↓UG_u, ↓MG_u, ↓NG_u, ↓PG_u, ↓BG_u, ↓CG_u, ↓IG_u, ↓VGtt, ↓VGtf, ↓VGft, ↓VGff, ↓UGtt, ↓UGtf, ↓UGft, ↓UGff, ↓MGtt, ↓MGtf, ↓MGft, ↓MGff, ↓NGtt, ↓NGtf, ↓NGft, ↓NGff, ↓PGtt, ↓PGtf, ↓PGft, ↓PGff, ↓BGtt, ↓BGtf, ↓BGft, ↓BGff, ↓CGtt, ↓CGtf, ↓CGft, ↓CGff, ↓IGtt, ↓IGtf, ↓IGft, ↓IGff, ↓PKt, ↓PKf, ↓CDt, ↓CDf, ↓NOTt, ↓NOTf, ↓NK_ptr, ↓NEt c2]
    have ha : atK key rank b = false := by unfold atK; rw [decide_eq_false c2]; simp
    refine skip _ ha rfl (fun i hi => by repeat rw [up_at, if_neg (by omega)]) fun ρ2 h2 h10 => ?_
    have s : ∀ i, i < 10 → ρ2 i = ρ i := fun i hi => by
      rw [h2 i hi]
      repeat rw [up_at, if_neg (by omega)]
    refine ⟨⟨i + 1, hlt, h10, (s 0 (by decide)).trans e0, (s 1 (by decide)).trans e1, (s 2 (by decide)).trans e2, ?_, ?_, (s 8 (by decide)).trans e8, rfl⟩, ?_⟩
    · rw [etk, partsC_app, partsC_one, if_neg (by rw [ha]; simp), List.append_nil]; exact (s 3 (by decide)).trans e3
    · rw [etk, partsC_app, partsC_one, if_neg (by rw [ha]; simp), List.append_nil]; exact hc
    · rw [h10]; simp only [intOf]; omega
  simp only [↓VG_u, ↓UG_u, ↓MG_u, ↓NG_u, ↓PG_u, ↓BG_u, ↓CG_u, ↓IG_u, ↓VGtt, ↓VGtf, ↓VGft, ↓VGff, ↓UGtt, ↓UGtf, ↓UGft, ↓UGff, ↓MGtt, ↓MGtf, ↓MGft, ↓MGff, ↓NGtt, ↓NGtf, ↓NGft, ↓NGff, ↓PGtt, ↓PGtf, ↓PGft, ↓PGff, ↓BGtt, ↓BGtf, ↓BGft, ↓BGff, ↓CGtt, ↓CGtf, ↓CGft, ↓CGff, ↓IGtt, ↓IGtf, ↓IGft, ↓IGff, ↓PKt, ↓PKf, ↓CDt, ↓CDf, ↓NOTt, ↓NOTf, ↓NK_ptr, ↓NEf c2]
  have ha : atK key rank b = true := by unfold atK; rw [decide_eq_true c1, decide_eq_true c2]; rfl
  rw [dispatcherref15_Coll_Part_R3_eq]; unfold dispatcherref15_Coll_Part_R3_F
  refine condF ?_
  rw [sq_n, dispatcherref15_Coll_Part_R4_eq]; unfold dispatcherref15_Coll_Part_R4_F
  simp only [sq_n, sq_x, sq_r, bk_n, bk_r, bk_x, rt_r, rt_n, rs_0, rs_t, pk_1, pk_2, up_at, reduceIte, Nat.reduceEqDiff, e3, e0, e10, e8]
  by_cases c3 : k - (partsC (L.take i) key rank).length = 0
  · rw [EQt c3]
    refine condT ?_
    simp only [↓VG_u, ↓UG_u, ↓MG_u, ↓NG_u, ↓PG_u, ↓BG_u, ↓CG_u, ↓IG_u, ↓VGtt, ↓VGtf, ↓VGft, ↓VGff, ↓UGtt, ↓UGtf, ↓UGft, ↓UGff, ↓MGtt, ↓MGtf, ↓MGft, ↓MGff, ↓NGtt, ↓NGtf, ↓NGft, ↓NGff, ↓PGtt, ↓PGtf, ↓PGft, ↓PGff, ↓BGtt, ↓BGtf, ↓BGft, ↓BGff, ↓CGtt, ↓CGtf, ↓CGft, ↓CGff, ↓IGtt, ↓IGtf, ↓IGft, ↓IGff, ↓PKt, ↓PKf, ↓CDt, ↓CDf, ↓NOTt, ↓NOTf, ↓NK_ptr, ↓(f_all2 h').e]
    refine VK_of (hix _) ?_
    simp only [↓(gB2 hg).e]
    have hp := partC_here hx ha (show k = _ by omega)
    refine stS (old := zPt.enc.toArray) (cs := b.p.enc.toArray) rfl rfl iPt rfl (Pt.enc_one _) hb1 fun w3 hb3 hm3 hz3 => ?_
    refine rtCT (b := w.heap.size) (cs := b.p.enc.toArray) (by first | exact e8 | rfl) Tryd.underlying34 rfl iPt hb3 (R := fun v w' => v = .tuple #[((partC L key rank k).getD zPt).v, .bool (partC L key rank k).isSome] ∧ Mod none_ w w') ⟨by rw [hp]; rfl, hm1.then hm3 fun i hi z => by omega⟩
  · rw [EQf c3]
    refine condF ?_
    rw [BK_sub, wrap_i (by omega) (by omega)]
    try rw [bk_n, sq_n]
    refine part_R2 (n := i) ?_ (by omega) fun ρ2 h2 h10 => ?_
    · exact e10
    have s : ∀ i, i < 10 → i ≠ 3 → ρ2 i = ρ i := fun i hi h3 => by
      rw [h2 i hi]
      repeat rw [up_at, if_neg (by omega)]
    refine ⟨⟨i + 1, hlt, h10, (s 0 (by decide) (by decide)).trans e0, (s 1 (by decide) (by decide)).trans e1, (s 2 (by decide) (by decide)).trans e2, ?_, ?_, (s 8 (by decide) (by decide)).trans e8, rfl⟩, ?_⟩
    · rw [etk, partsC_app, partsC_one, if_pos ha, h2 3 (by decide), List.length_append]
      show Value.int .i64 _ = _
      congr 1
      simp
      omega
    · rw [etk, partsC_app, partsC_one, if_pos ha, List.length_append]
      simp
      omega
    · rw [h10]; simp only [intOf]; omega
end
end Go.Proofs.YtandbmnhghmcgaaDoor.Col
set_option linter.unusedVariables false
set_option linter.unusedSimpArgs false
set_option maxRecDepth 8000
namespace Go.X
open Go Go.RowKit
theorem presC_mem {L : List Br} {key : Ky} {g : List Int} {k : Int} {p : Pt} : p ∈ presC L key g k ↔ ∃ r ∈ g, partC L key r k = some p := by
  unfold presC
  rw [List.mem_filterMap]
theorem fitAll_add {L : List Br} {key : Ky} {g : List Int} {k : Int} {n : Nat} {x : Int} (hx : g[n]? = some x) (h : fitAll (presC L key (g.take n) k) = true) (ha : ∀ a, partC L key x k = some a → ∀ b ∈ presC L key (g.take n) k, fitPt a b = true) : fitAll (presC L key (g.take (n + 1)) k) = true := by
  rw [take_one hx, presC_snoc]
  rw [fitAll_iff] at h ⊢
  intro a ha' b hb'
  rcases List.mem_append.1 ha' with y | y <;> rcases List.mem_append.1 hb' with z | z
  · exact h a y b z
  · exact fitPt_symm (ha b (by simpa [Option.mem_toList] using z) a y)
  · exact ha a (by simpa [Option.mem_toList] using y) b z
  · have e1 : partC L key x k = some a := by simpa [Option.mem_toList] using y
    have e2 : partC L key x k = some b := by simpa [Option.mem_toList] using z
    rw [e1] at e2
    cases e2
    exact fitPt_self a
theorem odd_found {L : List Br} {key : Ky} {g : List Int} {k : Int} {x y : Int} {a b : Pt} (hg : grpC L key = some g) (hx : x ∈ g) (hy : y ∈ g) (ha : partC L key x k = some a) (hb : partC L key y k = some b) (hf : fitPt a b = false) : oddK L key k = true := by
  unfold oddK
  rw [hg, Option.getD_some]
  cases hq : fitAll (presC L key g k) with
  | false => rfl
  | true =>
    have := fitAll_iff.1 hq a (presC_mem.2 ⟨x, hx, ha⟩) b (presC_mem.2 ⟨y, hy, hb⟩)
    rw [hf] at this
    cases this
end Go.X
namespace Go.Proofs.YtandbmnhghmcgaaDoor.Col
open Go Go.X Go.RowKit Go.Proofs.YtandbmnhghmcgaaDoor.XF Go.Proofs.YtandbmnhghmcgaaDoor.XG Go.Proofs.YtandbmnhghmcgaaDoor.XI Go.Proofs.YtandbmnhghmcgaaDoor.XK
structure OdS (q : Nat) (key : Ky) (k : Int) (b7 : Nat) (n : Nat) (ρ : Sl) : Prop where
  h0 : ρ 0 = .pointer (some ⟨q, 0, none⟩)
  h1 : ρ 1 = strV key
  h2 : ρ 2 = .int .i64 k
  h7 : ρ 7 = .pointer (some ⟨b7, 0, none⟩)
  h9 : ρ 9 = .int .i64 n
section
variable {w w' : World} {B q : Nat} {loose : Bool} {L : List Br} {xs : List Bq} {sv : Value} {b : Br} {key : Ky} {k : Int} {b7 n : Nat}
theorem OdS.of {ρ ρ' : Sl} (h : OdS q key k b7 n ρ) (hs : ∀ i, i < 10 → ρ' i = ρ i) : OdS q key k b7 n ρ' := ⟨(hs 0 (by decide)).trans h.h0, (hs 1 (by decide)).trans h.h1, (hs 2 (by decide)).trans h.h2, (hs 7 (by decide)).trans h.h7, (hs 9 (by decide)).trans h.h9⟩
theorem oddD_L2 {K : Exit → Sl → World → Prop} {ρ : Sl} {b10 : Nat} {rv1 : Value} {k1 : Ky} {g : List Int} {x : Int} {oa : Option Pt} (h : DAt w B q loose L xs sv) (hL : L.length ≤ 1000000) (hk0 : 0 ≤ k) (hk1 : k ≤ 9223372036854775807) (hg : grpC L key = some g) (hgl : g.length ≤ 1000000) (hR : RR w rv1 g) (hb7 : w.heap[b7]? = some (.cells #[strV k1, rv1] tG (0, 0))) (hb10 : w.heap[b10]? = some (.cells (oa.getD zPt).enc.toArray tPt (0, 0))) (hx : g[n]? = some x) (hpx : partC L key x k = oa)
    (es : OdS q key k b7 n ρ) (q10 : ρ 10 = .pointer (some ⟨b10, 0, none⟩)) (q11 : ρ 11 = .bool oa.isSome) (q12 : ρ 12 = .int .i64 (0 : Nat))
    (hret : oddK L key k = true → ∀ (ρ' : Sl) (w' : World), Mod none_ w w' → K .ret (up ρ' 6 (.bool true)) w')
    (hK : ∀ (ρ' : Sl) (w' : World), OdS q key k b7 n ρ' → (∀ a, oa = some a → ∀ b ∈ presC L key (g.take n) k, fitPt a b = true) → Mod none_ w w' → K (.exit 2) ρ' w') : W fn_ Tryd.prog 67 (Code.loop dispatcherref15_Coll_odd_L2) K ρ w := by
  have hn := (List.getElem?_eq_some_iff.1 hx).1
  refine W_loop dispatcherref15_Coll_odd_L2_ok (fun ρ w' => ∃ m : Nat, m ≤ n ∧ ρ 12 = .int .i64 m ∧ OdS q key k b7 n ρ ∧ ρ 10 = .pointer (some ⟨b10, 0, none⟩) ∧ ρ 11 = .bool oa.isSome ∧ (∀ a, oa = some a → ∀ b ∈ presC L key (g.take m) k, fitPt a b = true) ∧ Mod none_ w w') (fun ρ _ => n - (intOf (ρ 12)).toNat)
    ⟨0, Nat.zero_le _, q12, es, q10, q11, by simp [presC], Mod.refl _ _⟩ ?_
  rintro ρ w1 ⟨m, hm, e12, es, e10, e11, hall, hm1⟩
  have h1 := h.calm hm1
  rw [dispatcherref15_Coll_odd_L2_eq]; unfold dispatcherref15_Coll_odd_L2_F
  rw [e12, es.h9, e11, es.h7, es.h0, es.h1, es.h2, e10]
  by_cases hlt : (m : Int) < (n : Int)
  case neg =>
    obtain rfl : m = n := by omega
    simp only [↓VG_u, ↓UG_u, ↓MG_u, ↓NG_u, ↓PG_u, ↓BG_u, ↓CG_u, ↓IG_u, ↓VGtt, ↓VGtf, ↓VGft, ↓VGff, ↓UGtt, ↓UGtf, ↓UGft, ↓UGff, ↓MGtt, ↓MGtf, ↓MGft, ↓MGff, ↓NGtt, ↓NGtf, ↓NGft, ↓NGff, ↓PGtt, ↓PGtf, ↓PGft, ↓PGff, ↓BGtt, ↓BGtf, ↓BGft, ↓BGff, ↓CGtt, ↓CGtf, ↓CGft, ↓CGff, ↓IGtt, ↓IGtf, ↓IGft, ↓IGff, ↓PKt, ↓PKf, ↓CDt, ↓CDf, ↓NOTt, ↓NOTf, ↓NK_ptr, ↓LTf (show (m : Int) ≤ (m : Int) by omega)]
    exact hK _ _ (es.of fun i hi => by repeat rw [up_at, if_neg (by omega)]) hall hm1
  simp only [↓VG_u, ↓UG_u, ↓MG_u, ↓NG_u, ↓PG_u, ↓BG_u, ↓CG_u, ↓IG_u, ↓VGtt, ↓VGtf, ↓VGft, ↓VGff, ↓UGtt, ↓UGtf, ↓UGft, ↓UGff, ↓MGtt, ↓MGtf, ↓MGft, ↓MGff, ↓NGtt, ↓NGtf, ↓NGft, ↓NGff, ↓PGtt, ↓PGtf, ↓PGft, ↓PGff, ↓BGtt, ↓BGtf, ↓BGft, ↓BGff, ↓CGtt, ↓CGtf, ↓CGft, ↓CGff, ↓IGtt, ↓IGtf, ↓IGft, ↓IGff, ↓PKt, ↓PKf, ↓CDt, ↓CDf, ↓NOTt, ↓NOTf, ↓NK_ptr, ↓LTt hlt]
  cases oa with
  | none =>
    simp only [Option.isSome_none, ↓VG_u, ↓UG_u, ↓MG_u, ↓NG_u, ↓PG_u, ↓BG_u, ↓CG_u, ↓IG_u, ↓VGtt, ↓VGtf, ↓VGft, ↓VGff, ↓UGtt, ↓UGtf, ↓UGft, ↓UGff, ↓MGtt, ↓MGtf, ↓MGft, ↓MGff, ↓NGtt, ↓NGtf, ↓NGft, ↓NGff, ↓PGtt, ↓PGtf, ↓PGft, ↓PGff, ↓BGtt, ↓BGtf, ↓BGft, ↓BGff, ↓CGtt, ↓CGtf, ↓CGft, ↓CGff, ↓IGtt, ↓IGtf, ↓IGft, ↓IGff, ↓PKt, ↓PKf, ↓CDt, ↓CDf, ↓NOTt, ↓NOTf, ↓NK_ptr]
    exact hK _ _ (es.of fun i hi => by repeat rw [up_at, if_neg (by omega)]) (fun a z => by cases z) hm1
  | some a =>
  simp only [Option.isSome_some, ↓VG_u, ↓UG_u, ↓MG_u, ↓NG_u, ↓PG_u, ↓BG_u, ↓CG_u, ↓IG_u, ↓VGtt, ↓VGtf, ↓VGft, ↓VGff, ↓UGtt, ↓UGtf, ↓UGft, ↓UGff, ↓MGtt, ↓MGtf, ↓MGft, ↓MGff, ↓NGtt, ↓NGtf, ↓NGft, ↓NGff, ↓PGtt, ↓PGtf, ↓PGft, ↓PGff, ↓BGtt, ↓BGtf, ↓BGft, ↓BGff, ↓CGtt, ↓CGtf, ↓CGft, ↓CGff, ↓IGtt, ↓IGtf, ↓IGft, ↓IGff, ↓PKt, ↓PKf, ↓CDt, ↓CDf, ↓NOTt, ↓NOTf, ↓NK_ptr, ↓(fG1 (hm1.blk hb7 id)).e]
  have hy : g[m]? = some g[m] := List.getElem?_eq_getElem (by omega)
  have hym : g[m] ∈ g := List.getElem_mem (by omega)
  have etk := take_one hy
  generalize g[m] = y at *
  obtain ⟨p1, r1, l1⟩ := ixR (hR.calm hm1) hy
  refine VK_of (r1 _) (VK_of (l1 _ (Mod.refl _ _)) ?_)
  refine CK_st Tryd.func64 rfl rfl (PartD_ok h1 hL key y hk0 hk1) ?_
  rintro _ w2 ⟨rfl, hm2⟩
  rw [extract_ok (v := ((partC L key y k).getD zPt).v) rfl, extract_ok (v := .bool (partC L key y k).isSome) rfl]
  refine lcl_k (cs := ((partC L key y k).getD zPt).enc.toArray) zPt_z _ iPt rfl (Pt.enc_one _) fun w3 hb3 hm3 hz3 => ?_
  have hm13 := hm1.trans (hm2.trans hm3)
  have nxt : ∀ (ρ2 : Sl) (w4 : World), (∀ i, i < 12 → ρ2 i = ρ i) → ρ2 12 = .int .i64 (m + 1 : Nat) → Mod none_ w w4 → (∀ b, partC L key y k = some b → fitPt a b = true) → (∃ m : Nat, m ≤ n ∧ ρ2 12 = .int .i64 m ∧ OdS q key k b7 n ρ2 ∧ ρ2 10 = .pointer (some ⟨b10, 0, none⟩) ∧ ρ2 11 = .bool (some a : Option Pt).isSome ∧ (∀ a', some a = some a' → ∀ b ∈ presC L key (g.take m) k, fitPt a' b = true) ∧ Mod none_ w w4) ∧ n - (intOf (ρ2 12)).toNat < n - (intOf (.int .i64 (m : Int))).toNat := by
    intro ρ2 w4 s h12 hm4 hf
    refine ⟨⟨m + 1, by omega, h12, es.of fun i hi => s i (by omega), (s 10 (by decide)).trans e10, (s 11 (by decide)).trans e11, fun a' ea b hb => ?_, hm4⟩, ?_⟩
    · cases ea
      rw [etk, presC_snoc] at hb
      rcases List.mem_append.1 hb with z | z
      · exact hall a rfl b z
      · exact hf b (by simpa [Option.mem_toList] using z)
    · rw [h12]; simp only [intOf]; omega
  have r45 : ∀ {N : Sl → World → Prop} {K0 : Exit → Sl → World → Prop} {ρ2 : Sl} {w4 : World}, ρ2 66 = .bool false → ρ2 12 = .int .i64 m → (∀ ρ3 : Sl, (∀ i, i < 12 → ρ3 i = ρ2 i) → ρ3 12 = .int .i64 (m + 1 : Nat) → N ρ3 w4) → sx fn_ Tryd.prog 67 dispatcherref15_Coll_odd_R4 (blkK 3 (seqK (sx fn_ Tryd.prog 67 dispatcherref15_Coll_odd_R5 (seqK N K0)) (seqK N K0))) ρ2 w4 := by
    intro N K0 ρ2 w4 z66 z12 hN
    rw [dispatcherref15_Coll_odd_R4_eq]; unfold dispatcherref15_Coll_odd_R4_F
    rw [z66]
    refine condF ?_
    rw [bk_n, sq_n, dispatcherref15_Coll_odd_R5_eq]; unfold dispatcherref15_Coll_odd_R5_F
    rw [z12, BK_add, wrap_i (by omega) (by omega)]
    exact hN _ (fun i hi => by repeat rw [up_at, if_neg (by omega)]) rfl
  cases hp : partC L key y k with
  | none =>
    simp only [Option.isSome_none, ↓VG_u, ↓UG_u, ↓MG_u, ↓NG_u, ↓PG_u, ↓BG_u, ↓CG_u, ↓IG_u, ↓VGtt, ↓VGtf, ↓VGft, ↓VGff, ↓UGtt, ↓UGtf, ↓UGft, ↓UGff, ↓MGtt, ↓MGtf, ↓MGft, ↓MGff, ↓NGtt, ↓NGtf, ↓NGft, ↓NGff, ↓PGtt, ↓PGtf, ↓PGft, ↓PGff, ↓BGtt, ↓BGtf, ↓BGft, ↓BGff, ↓CGtt, ↓CGtf, ↓CGft, ↓CGff, ↓IGtt, ↓IGtf, ↓IGft, ↓IGff, ↓PKt, ↓PKf, ↓CDt, ↓CDf, ↓NOTt, ↓NOTf, ↓NK_ptr]
    refine r45 rfl ?_ fun ρ3 s3 z12 => nxt ρ3 _ (fun i hi => ?_) z12 hm13 fun b hb => by rw [hp] at hb; cases hb
    · exact e12
    · rw [s3 i hi]
      repeat rw [up_at, if_neg (by omega)]
  | some c =>
    rw [hp] at hb3
    simp only [Option.isSome_some, ↓VG_u, ↓UG_u, ↓MG_u, ↓NG_u, ↓PG_u, ↓BG_u, ↓CG_u, ↓IG_u, ↓VGtt, ↓VGtf, ↓VGft, ↓VGff, ↓UGtt, ↓UGtf, ↓UGft, ↓UGff, ↓MGtt, ↓MGtf, ↓MGft, ↓MGff, ↓NGtt, ↓NGtf, ↓NGft, ↓NGff, ↓PGtt, ↓PGtf, ↓PGft, ↓PGff, ↓BGtt, ↓BGtf, ↓BGft, ↓BGff, ↓CGtt, ↓CGtf, ↓CGft, ↓CGff, ↓IGtt, ↓IGtf, ↓IGft, ↓IGff, ↓PKt, ↓PKf, ↓CDt, ↓CDf, ↓NOTt, ↓NOTf, ↓NK_ptr]
    refine ldS (cs := a.enc.toArray) rfl Tryd.underlying34 rfl iPt (hm13.blk hb10 id) ?_
    refine ldS (cs := c.enc.toArray) rfl Tryd.underlying34 rfl iPt hb3 ?_
    refine CK_st Tryd.func22 rfl rfl (FitD_ok a c w3) ?_
    rintro _ w4 ⟨rfl, hm4⟩
    cases hf : fitPt a c with
    | true =>
      simp only [↓VG_u, ↓UG_u, ↓MG_u, ↓NG_u, ↓PG_u, ↓BG_u, ↓CG_u, ↓IG_u, ↓VGtt, ↓VGtf, ↓VGft, ↓VGff, ↓UGtt, ↓UGtf, ↓UGft, ↓UGff, ↓MGtt, ↓MGtf, ↓MGft, ↓MGff, ↓NGtt, ↓NGtf, ↓NGft, ↓NGff, ↓PGtt, ↓PGtf, ↓PGft, ↓PGff, ↓BGtt, ↓BGtf, ↓BGft, ↓BGff, ↓CGtt, ↓CGtf, ↓CGft, ↓CGff, ↓IGtt, ↓IGtf, ↓IGft, ↓IGff, ↓PKt, ↓PKf, ↓CDt, ↓CDf, ↓NOTt, ↓NOTf, ↓NK_ptr]
      refine r45 rfl ?_ fun ρ3 s3 z12 => nxt ρ3 _ (fun i hi => ?_) z12 (hm13.trans hm4) fun b hb => by rw [hp] at hb; cases hb; exact hf
      · exact e12
      · rw [s3 i hi]
        repeat rw [up_at, if_neg (by omega)]
    | false =>
      simp only [↓VG_u, ↓UG_u, ↓MG_u, ↓NG_u, ↓PG_u, ↓BG_u, ↓CG_u, ↓IG_u, ↓VGtt, ↓VGtf, ↓VGft, ↓VGff, ↓UGtt, ↓UGtf, ↓UGft, ↓UGff, ↓MGtt, ↓MGtf, ↓MGft, ↓MGff, ↓NGtt, ↓NGtf, ↓NGft, ↓NGff, ↓PGtt, ↓PGtf, ↓PGft, ↓PGff, ↓BGtt, ↓BGtf, ↓BGft, ↓BGff, ↓CGtt, ↓CGtf, ↓CGft, ↓CGff, ↓IGtt, ↓IGtf, ↓IGft, ↓IGff, ↓PKt, ↓PKf, ↓CDt, ↓CDf, ↓NOTt, ↓NOTf, ↓NK_ptr]
      rw [dispatcherref15_Coll_odd_R4_eq]; unfold dispatcherref15_Coll_odd_R4_F
      refine condT ?_
      exact hret (odd_found hg (List.mem_of_getElem? hx) hym hpx hp hf) _ _ (hm13.trans hm4)
theorem oddD_ok (h : DAt w B q loose L xs sv) (hL : L.length ≤ 1000000) (hgl : ∀ g, grpC L key = some g → g.length ≤ 1000000) (hk0 : 0 ≤ k) (hk1 : k ≤ 9223372036854775807) : Rt Tryd.prog 54 #[.pointer (some ⟨q, 0, none⟩), strV key, .int .i64 k] w fun v w' => v = .bool (oddK L key k) ∧ Mod none_ w w' := by
  refine dispatcherref15_Coll_odd_calls ?_
  unfold dispatcherref15_Coll_odd_F
  refine CK_st Tryd.func39 rfl rfl (groupD_ok h hL key) ?_
  rintro v w1 ⟨hgp, hm1⟩
  obtain ⟨k1, rv1, had, g, ev, hone, hR, hcase⟩ : ∃ (k1 : Ky) (rv1 : Value) (had : Bool) (g : List Int), v = .tuple #[grpV k1 rv1, .bool had] ∧ (#[strV k1, rv1] : Array Value).all (·.oneCell') = true ∧ RR w rv1 g ∧ ((g = [] ∧ grpC L key = none) ∨ grpC L key = some g) := by
    rcases hgp with ⟨hn, e⟩ | ⟨g, rv1, hs, e, hr⟩
    · exact ⟨[], nilS, false, [], e, grp_one _ none 0 0, (reads_of_owns (World.ownsRow_nil w 0 tI 1) : RR w nilS []), .inl ⟨rfl, hn⟩⟩
    · obtain ⟨A, c, e', _⟩ := reads_cap hr
      exact ⟨key, rv1, true, g, e, by rw [e']; exact grp_one _ _ _ _, hr, .inr hs⟩
  subst ev
  rw [extract_ok (v := grpV k1 rv1) rfl, extract_ok (v := .bool had) rfl]
  refine lcl_k (cs := #[strV k1, rv1]) zG _ iG rfl hone fun w2 hb2 hm2 hz2 => ?_
  have hm02 := hm1.trans hm2
  have ek : oddK L key k = !fitAll (presC L key g k) := by
    unfold oddK
    rcases hcase with ⟨rfl, e⟩ | e
    · rw [e]; rfl
    · rw [e]; rfl
  obtain ⟨A, c, er, _⟩ := reads_cap hR
  have hgl' : g.length ≤ 1000000 := by
    rcases hcase with ⟨rfl, e⟩ | e
    · simp
    · exact hgl g e
  refine W_loop dispatcherref15_Coll_odd_L0_ok (fun ρ w' => ∃ n : Nat, n ≤ g.length ∧ OdS q key k w1.heap.size n ρ ∧ fitAll (presC L key (g.take n) k) = true ∧ Mod none_ w2 w') (fun ρ _ => g.length - (intOf (ρ 9)).toNat)
    ⟨0, Nat.zero_le _, ⟨rfl, rfl, rfl, rfl, rfl⟩, by simp [presC, fitAll], Mod.refl _ _⟩ ?_
  rintro ρ w3 ⟨n, hn, es, hfit, hm3⟩
  have hm03 := hm02.trans hm3
  have hb3 := hm3.blk hb2 id
  rw [dispatcherref15_Coll_odd_L0_eq]; unfold dispatcherref15_Coll_odd_L0_F
  rw [es.h9, es.h7, es.h0, es.h1, es.h2]
  simp only [↓(fG1 hb3).e]
  rw [er, len_sl vIs, ← er, BK_lss]
  by_cases hlt : n < g.length
  case neg =>
    obtain rfl : n = g.length := by omega
    rw [decide_eq_false (by omega)]
    refine condF ?_
    rw [sq_x, bk_x, sq_n, dispatcherref15_Coll_odd_R1_eq]; unfold dispatcherref15_Coll_odd_R1_F
    rw [List.take_length] at hfit
    refine ⟨?_, hm03⟩
    rw [ek, hfit]
    rfl
  rw [decide_eq_true (by omega)]
  refine condT ?_
  have hg : grpC L key = some g := by
    rcases hcase with ⟨rfl, _⟩ | e
    · simp at hlt
    · exact e
  have hx : g[n]? = some g[n] := List.getElem?_eq_getElem hlt
  generalize g[n] = x at *
  simp only [↓(fG1 hb3).e]
  obtain ⟨p1, r1, l1⟩ := ixR (hR.calm hm03) hx
  refine VK_of (r1 _) (VK_of (l1 _ (Mod.refl _ _)) ?_)
  refine CK_st Tryd.func64 rfl rfl (PartD_ok (h.calm hm03) hL key x hk0 hk1) ?_
  rintro _ w4 ⟨rfl, hm4⟩
  rw [extract_ok (v := ((partC L key x k).getD zPt).v) rfl, extract_ok (v := .bool (partC L key x k).isSome) rfl]
  refine lcl_k (cs := ((partC L key x k).getD zPt).enc.toArray) zPt_z _ iPt rfl (Pt.enc_one _) fun w5 hb5 hm5 hz5 => ?_
  have hm05 := hm03.trans (hm4.trans hm5)
  refine oddD_L2 (n := n) (b7 := w1.heap.size) (k := k) (h.calm hm05) hL hk0 hk1 hg hgl' (hR.calm hm05) ((hm4.trans hm5).blk hb3 id) hb5 hx rfl (es.of fun i hi => by repeat rw [up_at, if_neg (by omega)]) rfl rfl rfl ?_ ?_
  · intro ho ρ' w' hm'
    refine ⟨?_, hm05.trans hm'⟩
    rw [ho]; rfl
  · intro ρ' w' es' hall hm'
    rw [bk_x, bk_n, sq_n, dispatcherref15_Coll_odd_R3_eq]; unfold dispatcherref15_Coll_odd_R3_F
    rw [es'.h9, BK_add, wrap_i (by omega) (by omega)]
    refine ⟨⟨n + 1, hlt, ⟨es'.h0, es'.h1, es'.h2, es'.h7, rfl⟩, fitAll_add hx hfit hall, (hm3.trans (hm4.trans hm5)).trans hm'⟩, ?_⟩
    simp only [sq_n, sq_x, sq_r, bk_n, bk_r, bk_x, rt_r, rt_n, rs_0, rs_t, pk_1, pk_2, up_at, reduceIte, Nat.reduceEqDiff, intOf]; omega
end
end Go.Proofs.YtandbmnhghmcgaaDoor.Col
set_option linter.unusedVariables false
set_option linter.unusedSimpArgs false
set_option maxRecDepth 8000
namespace Go.X
open Go Go.RowKit
theorem BK_quoD {P : Program} {w : World} {K : Value → World → Prop} {t : TypeId} {x y : Operand} {k : IntKind} {a b : Int} (hb : b ≠ 0) : BK P .quo t x y (.int k a) (.int k b) w K = K (.int k (k.wrap (a.tdiv b))) w := by
  refine BK_of rfl ?_
  simp [go_sem, hb]
end Go.X
namespace Go.Proofs.YtandbmnhghmcgaaDoor.Col
open Go Go.X Go.RowKit Go.Proofs.YtandbmnhghmcgaaDoor.XF Go.Proofs.YtandbmnhghmcgaaDoor.XG Go.Proofs.YtandbmnhghmcgaaDoor.XI Go.Proofs.YtandbmnhghmcgaaDoor.XK
theorem vU8s' : Tryd.prog.underlying 66 = some (.slice 5) := Tryd.underlying66
section
variable {w w' : World} {B q : Nat} {loose : Bool} {L : List Br} {xs : List Bq} {sv : Value} {b : Br} {key : Ky} {k : Int} {b7 n : Nat}
theorem dec_len : ∀ u : Nat, (Lib.decDigits u).length ≤ u + 1 := by
  intro u
  induction u using Nat.strongRecOn with
  | ind u ih =>
    rw [Lib.decDigits]
    split
    · simp
    · rw [List.length_append]
      have := ih (u / 10) (by omega)
      simp
      omega
theorem Digits_ok : ∀ (n : Nat) (w : World), n ≤ 1000000 → Rt Tryd.prog 55 #[.int .i64 (n : Int)] w fun v w' => v = strV (Lib.decDigits n) ∧ Mod none_ w w' := by
  intro n
  induction n using Nat.strongRecOn with
  | ind n ih =>
    intro w hn
    refine dispatcherref11_Digits_calls ?_
    unfold dispatcherref11_Digits_F
    rw [BK_lss]
    by_cases hlt : n < 10
    · rw [decide_eq_true (by omega)]
      refine condT ?_
      rw [conv_k (k := .u8) (by kernel_rfl) (by kernel_rfl), BK_add]
      have e : IntKind.u8.wrap (48 + IntKind.u8.wrap (n : Int)) = ((UInt8.ofNat (48 + n)).toNat : Int) := by
        have : n = 0 ∨ n = 1 ∨ n = 2 ∨ n = 3 ∨ n = 4 ∨ n = 5 ∨ n = 6 ∨ n = 7 ∨ n = 8 ∨ n = 9 := by omega
        rcases this with rfl | rfl | rfl | rfl | rfl | rfl | rfl | rfl | rfl | rfl <;> decide
      rw [e]
      refine bs_k (cs := #[.int .u8 ((UInt8.ofNat (48 + n)).toNat : Int)]) (by kernel_rfl) fun w1 hb1 hm1 hz1 => ?_
      refine str_of (b := [UInt8.ofNat (48 + n)]) vU8s' vU8 vS (reads_blk (size := 1) (n := 1) hb1 rfl) ?_
      refine ⟨?_, hm1⟩
      rw [Lib.decDigits, dif_pos hlt]
      rfl
    · rw [decide_eq_false (by omega)]
      refine condF ?_
      rw [BK_quoD (by decide)]
      have e1 : IntKind.i64.wrap ((n : Int).tdiv 10) = ((n / 10 : Nat) : Int) := by
        rw [Int.tdiv_eq_ediv_of_nonneg (by omega)]
        have : ((n : Int) / 10) = ((n / 10 : Nat) : Int) := by omega
        rw [this]
        exact wrap_i (by omega) (by omega)
      rw [e1]
      refine CK_st Tryd.func55 rfl rfl (ih (n / 10) (by omega) w (by omega)) ?_
      rintro _ w1 ⟨rfl, hm1⟩
      rw [BK_rem (by decide)]
      have e2 : (n : Int).tmod 10 = ((n % 10 : Nat) : Int) := by
        rw [Int.tmod_eq_emod_of_nonneg (by omega)]
        omega
      rw [e2]
      refine CK_st Tryd.func55 rfl rfl (ih (n % 10) (by omega) w1 (by omega)) ?_
      rintro _ w2 ⟨rfl, hm2⟩
      have l1 := dec_len (n / 10)
      have l2 := dec_len (n % 10)
      rw [BK_addS (by omega) (by omega)]
      refine ⟨?_, hm1.trans hm2⟩
      have e3 : Lib.decDigits (n % 10) = [UInt8.ofNat (48 + n % 10)] := by rw [Lib.decDigits, dif_pos (by omega)]
      rw [e3]
      conv => rhs; rw [Lib.decDigits, dif_neg hlt]
abbrev StrR (w : World) (v : Value) (l : List Ky) : Prop := reads w 1 v l.length (strs l)
theorem ixS {v : Value} {l : List Ky} {i : Nat} {m : Ky} (h : StrR w v l) (hi : l[i]? = some m) : ∃ a, (∀ w', (Instr.indexAt tSs v (.int .i64 (i : Int))).run Tryd.prog w' = .ok (.pointer (some a)) w') ∧ ∀ w', Mod none_ w w' → (Instr.loadAt tS (.pointer (some a))).run Tryd.prog w' = .ok (strV m) w' := by
  have hil := (List.getElem?_eq_some_iff.1 hi).1
  obtain ⟨_, A, c, es, hnc, hr⟩ := id h
  obtain ⟨a, ha, _⟩ := hr i _ (strs_get hi)
  subst es ha
  refine ⟨a.add i, fun w' => ?_, fun w' hw => ?_⟩
  · rw [run_ixa (sz := 0) vSs (by kernel_rfl) (by omega) (by omega) w']
    congr 4
    omega
  · obtain ⟨_, A, c, es, _, hc⟩ := reads_mod h hw (fun _ _ _ => id)
    cases es
    obtain ⟨b, hb, hcell⟩ := hc i _ (strs_get hi)
    cases hb
    exact run_ld1 vS rfl hcell
theorem texts_ok {v u : Value} {a c : List Ky} (ha : StrR w v a) (hb : StrR w u c) (he : a = c) (hl : a.length ≤ 1000000) : Rt Tryd.prog 23 #[v, u] w fun x w' => x = .bool true ∧ Mod none_ w w' := by
  subst he
  refine dispatcherlaw15_texts_calls ?_
  unfold dispatcherlaw15_texts_F
  obtain ⟨A, c1, es, _⟩ := reads_cap ha
  obtain ⟨A2, c2, es2, _⟩ := reads_cap hb
  rw [es, len_sl vSs, ← es, es2, len_sl vSs, ← es2, NEf rfl]
  refine condF ?_
  refine W_loop dispatcherlaw15_texts_L0_ok (fun ρ w' => ∃ i : Nat, i ≤ a.length ∧ ρ 5 = .int .i64 i ∧ ρ 0 = v ∧ ρ 1 = u ∧ Mod none_ w w') (fun ρ _ => a.length - (intOf (ρ 5)).toNat)
    ⟨0, Nat.zero_le _, rfl, rfl, rfl, Mod.refl _ _⟩ ?_
  rintro ρ w1 ⟨i, hi, e5, e0, e1, hm⟩
  rw [dispatcherlaw15_texts_L0_eq]; unfold dispatcherlaw15_texts_L0_F
  rw [e5, e0, es, len_sl vSs, ← es, BK_lss]
  by_cases hlt : i < a.length
  · rw [decide_eq_true (by omega)]
    refine condT ?_
    have hx : a[i]? = some a[i] := List.getElem?_eq_getElem hlt
    generalize a[i] = x at *
    obtain ⟨p1, r1, l1⟩ := ixS ha hx
    obtain ⟨p2, r2, l2⟩ := ixS hb hx
    refine dispatcherlaw15_texts_R2_quiet (D := []) (fun w' => Mod none_ w w') (hm.trans ((Mod.refl _ w1).drawn _)) ?_
    unfold dispatcherlaw15_texts_R2_Q
    simp only [sq_n, sq_x, sq_r, bk_n, bk_r, bk_x, rt_r, rt_n, rs_0, rs_t, pk_1, pk_2, up_at, reduceIte, Nat.reduceEqDiff, e0, e1, e5]
    refine QV_of (fun w' _ => r1 w') (QV_of (fun w' hw => l1 w' hw) (QV_of (fun w' _ => r2 w') (QV_of (fun w' hw => l2 w' hw) ?_)))
    refine QV_of (v := .bool false) (fun w' _ => by simp [strV, go_sem]) ?_
    intro w' hw
    try rw [sq_n]
    rw [dispatcherlaw15_texts_R3_eq]; unfold dispatcherlaw15_texts_R3_F
    simp only [sq_n, sq_x, sq_r, bk_n, bk_r, bk_x, rt_r, rt_n, rs_0, rs_t, pk_1, pk_2, up_at, reduceIte, Nat.reduceEqDiff]
    refine condF ?_
    try rw [bk_n, sq_n]
    rw [dispatcherlaw15_texts_R4_eq]; unfold dispatcherlaw15_texts_R4_F
    simp only [sq_n, sq_x, sq_r, bk_n, bk_r, bk_x, rt_r, rt_n, rs_0, rs_t, pk_1, pk_2, up_at, reduceIte, Nat.reduceEqDiff, e5]
    rw [BK_add, wrap_i (by omega) (by omega)]
    refine ⟨⟨i + 1, hlt, rfl, e0, e1, hw⟩, ?_⟩
    simp only [sq_n, sq_x, sq_r, bk_n, bk_r, bk_x, rt_r, rt_n, rs_0, rs_t, pk_1, pk_2, up_at, reduceIte, Nat.reduceEqDiff, intOf]; omega
  · obtain rfl : i = a.length := by omega
    rw [decide_eq_false (by omega)]
    refine condF ?_
    rw [sq_x, bk_x, sq_n, dispatcherlaw15_texts_R1_eq]; unfold dispatcherlaw15_texts_R1_F
    exact ⟨rfl, hm⟩
end
end Go.Proofs.YtandbmnhghmcgaaDoor.Col
