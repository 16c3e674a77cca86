/- Several texts of this repo, one behind the other, without what is not used here. -/
import Derived.Test.YtmnkedgmpbcicaaProg
import Derived.Test.YtmnkedgmpbcicaaUN1
set_option linter.unusedVariables false
set_option maxRecDepth 100000
namespace Go.Proofs.Ytmnkedgmpbcicaa.XG
open Go Go.X
noncomputable def dispatcherlaw14_PostedNil_b : Code := (Try.f7.body).getD .skip
noncomputable def dispatcherlaw14_PostedNil_L0 : Code := cAt [1, 1, 1, 1, 1, 1, 0, 1, 0, 0] dispatcherlaw14_PostedNil_b
noncomputable def dispatcherlaw14_PostedNil_R1 : Code := cAt [1, 1, 1, 1, 1, 1, 1] dispatcherlaw14_PostedNil_b
noncomputable def dispatcherlaw14_PostedNil_R2 : Code := cAt [1, 1, 1, 1, 1, 1, 0, 1, 0, 0, 1, 0, 0, 1, 1, 0] dispatcherlaw14_PostedNil_b
noncomputable def dispatcherlaw14_PostedNil_R3 : Code := cAt [1, 1, 1, 1, 1, 1, 0, 1, 0, 0, 1, 0, 0, 1, 1, 1] dispatcherlaw14_PostedNil_b
noncomputable def dispatcherlaw14_PostedNil_R4 : Code := cAt [1, 1, 1, 1, 1, 1, 0, 1, 0, 0, 1, 1] dispatcherlaw14_PostedNil_b
noncomputable def dispatcherlaw14_PostedNil_R5 : Code := cAt [1, 1, 1, 1, 1, 1, 1, 1, 1, 0] dispatcherlaw14_PostedNil_b
noncomputable def dispatcherlaw14_PostedNil_R6 : Code := cAt [1, 1, 1, 1, 1, 1, 1, 1, 1, 1] dispatcherlaw14_PostedNil_b
noncomputable def dispatcherlaw14_PostedNil_L0_F (z : At) (K : Exit → Sl → World → Prop) (ρ : Sl) (w : World) : Prop :=
  IK Try.prog .len #[62] 3 [false] [(ρ 5)] w fun x25 w => BK Try.prog .lss 3 (.tmp 23) (.tmp 25) (ρ 6) x25 w fun x26 w => CondK x26 (VK Try.prog (Instr.indexAt 62 (ρ 5) (ρ 6)) w fun x31 w => VK Try.prog (Instr.loadAt 28 x31) w fun x32 w => VK Try.prog (Instr.fieldAt 48 (ρ 1) 2) w fun x35 w => VK Try.prog (Instr.fieldAt 24 x35 1) w fun x36 w => VK Try.prog (Instr.loadAt 3 x36) w fun x37 w => VK Try.prog (Instr.fieldAt 48 (ρ 1) 2) w fun x38 w => VK Try.prog (Instr.fieldAt 24 x38 2) w fun x39 w => VK Try.prog (Instr.loadAt 3 x39) w fun x40 w => CK Try.prog (Value.func (Fn.func 21) #[] #[]) [x32, x37, x40] w fun x41 w => VK Try.prog (Instr.extract x41 0) w fun x42 w => VK Try.prog (Instr.extract x41 1) w fun x43 w => VK Try.prog (Instr.alloc 24 true (.tuple #[])) w fun x8 w => UK Try.prog (Instr.storeAt 24 x8 x42) w fun _ w => W z Try.prog 140 dispatcherlaw14_PostedNil_R2 (seqK (sx z Try.prog 140 dispatcherlaw14_PostedNil_R3 (blkK 1 (seqK (sx z Try.prog 140 dispatcherlaw14_PostedNil_R4 K) K))) (blkK 1 (seqK (sx z Try.prog 140 dispatcherlaw14_PostedNil_R4 K) K))) (up (up (up (up (up (up (up (up (up (up (up (up (up (up (up (up (up (up (up (up (up (up ρ 23 (ρ 6)) 24 (ρ 5)) 25 x25) 26 x26) 29 (ρ 5)) 30 (ρ 6)) 31 x31) 32 x32) 7 x32) 34 x32) 35 x35) 36 x36) 37 x37) 38 x38) 39 x39) 40 x40) 41 x41) 33 x41) 42 x42) 43 x43) 8 x8) 9 x43) w) (K (.exit 0) (up (up (up (up ρ 23 (ρ 6)) 24 (ρ 5)) 25 x25) 26 x26) w)
theorem dispatcherlaw14_PostedNil_L0_eq (z : At) (K : Exit → Sl → World → Prop) (ρ : Sl) (w : World) : sx z Try.prog 140 dispatcherlaw14_PostedNil_L0 K ρ w = dispatcherlaw14_PostedNil_L0_F z K ρ w := by kernel_rfl
theorem dispatcherlaw14_PostedNil_L0_ok : dstOk 140 dispatcherlaw14_PostedNil_L0 = true := by kernel_rfl
noncomputable def dispatcherlaw14_PostedNil_R1_F (z : At) (K : Exit → Sl → World → Prop) (ρ : Sl) (w : World) : Prop :=
  CK Try.prog (Value.func (Fn.func 24) #[] #[]) [] w fun x97 w => VK Try.prog (Instr.fieldAt 48 (ρ 1) 2) w fun x99 w => VK Try.prog (Instr.loadAt 24 x99) w fun x100 w => CK Try.prog (Value.func (Fn.func 14) #[] #[]) [x97, x100] w fun x101 w => W z Try.prog 140 dispatcherlaw14_PostedNil_R5 (seqK (sx z Try.prog 140 dispatcherlaw14_PostedNil_R6 K) K) (up (up (up (up (up (up ρ 97 x97) 10 x97) 98 x97) 99 x99) 100 x100) 101 x101) w
theorem dispatcherlaw14_PostedNil_R1_eq (z : At) (K : Exit → Sl → World → Prop) (ρ : Sl) (w : World) : sx z Try.prog 140 dispatcherlaw14_PostedNil_R1 K ρ w = dispatcherlaw14_PostedNil_R1_F z K ρ w := by kernel_rfl
noncomputable def dispatcherlaw14_PostedNil_R2_ops : Array Oper := opsOf dispatcherlaw14_PostedNil_R2
def dispatcherlaw14_PostedNil_R2_Q (C : World → Prop) (K : Exit → Sl → World → Prop) (ρ : Sl) : Prop :=
  QG Try.prog C (ρ 9) false  (pure (Next.value (ρ 7))) fun x46 => QG Try.prog C (ρ 9) false  (do pure (Next.value (← Instr.fieldAt 48 (ρ 1) 2))) fun x47 => QG Try.prog C (ρ 9) false  (do pure (Next.value (← Instr.loadAt 24 x47))) fun x48 => QG Try.prog C (ρ 9) false  (do let d ← Deferred.ofValue (Value.func (Fn.func 14) #[] #[]) [x46, x48].toArray; invoke d.target d.args) fun x49 => QG Try.prog C (ρ 9) false  (do pure (Next.value (← (do eqGuard BinOp.neq 33 (Operand.tmp 49) (Operand.const (Value.int IntKind.i64 1)) x49 (Value.int IntKind.i64 1); binOp BinOp.neq 33 x49 (Value.int IntKind.i64 1))))) fun x50 => QK Try.prog C (do pure (Next.value (if ← asBool (ρ 9) then (Value.bool true) else x50))) fun x51 => QG Try.prog C x51 false  (pure (Next.value (ρ 7))) fun x53 => QG Try.prog C x51 false  (pure (Next.value (ρ 4))) fun x54 => QG Try.prog C x51 false  (do pure (Next.value (← Instr.fieldAt 48 (ρ 1) 2))) fun x55 => QG Try.prog C x51 false  (do pure (Next.value (← Instr.fieldAt 24 x55 1))) fun x56 => QG Try.prog C x51 false  (do pure (Next.value (← Instr.loadAt 3 x56))) fun x57 => QG Try.prog C x51 false  (do pure (Next.value (← Instr.fieldAt 48 (ρ 1) 2))) fun x58 => QG Try.prog C x51 false  (do pure (Next.value (← Instr.fieldAt 24 x58 2))) fun x59 => QG Try.prog C x51 false  (do pure (Next.value (← Instr.loadAt 3 x59))) fun x60 => QG Try.prog C x51 false  (do pure (Next.value (← Instr.fieldAt 48 (ρ 1) 1))) fun x61 => QG Try.prog C x51 false  (do pure (Next.value (← Instr.fieldAt 39 x61 1))) fun x62 => QG Try.prog C x51 false  (do pure (Next.value (← Instr.loadAt 3 x62))) fun x63 => QG Try.prog C x51 false  (do pure (Next.value (← Instr.fieldAt 48 (ρ 1) 1))) fun x64 => QG Try.prog C x51 false  (do pure (Next.value (← Instr.fieldAt 39 x64 3))) fun x65 => QG Try.prog C x51 false  (do pure (Next.value (← Instr.loadAt 3 x65))) fun x66 => QG Try.prog C x51 false  (do let d ← Deferred.ofValue (Value.func (Fn.func 17) #[] #[]) [x53, x54, x57, x60, x63, x66].toArray; invoke d.target d.args) fun x67 => QG Try.prog C x51 false  (do pure (Next.value (← (do eqGuard BinOp.neq 33 (Operand.tmp 67) (Operand.const (Value.int IntKind.i64 1)) x67 (Value.int IntKind.i64 1); binOp BinOp.neq 33 x67 (Value.int IntKind.i64 1))))) fun x68 => QK Try.prog C (do pure (Next.value (if ← asBool x51 then (Value.bool true) else x68))) fun x69 => QG Try.prog C x69 false  (pure (Next.value (ρ 7))) fun x71 => QG Try.prog C x69 false  (do pure (Next.value (← Instr.fieldAt 48 (ρ 1) 2))) fun x72 => QG Try.prog C x69 false  (do pure (Next.value (← Instr.fieldAt 24 x72 1))) fun x73 => QG Try.prog C x69 false  (do pure (Next.value (← Instr.loadAt 3 x73))) fun x74 => QG Try.prog C x69 false  (do let d ← Deferred.ofValue (Value.func (Fn.func 18) #[] #[]) [x71, x74].toArray; invoke d.target d.args) fun x75 => QG Try.prog C x69 false  (builtin Builtin.len #[41] 3 [false].toArray [x75].toArray) fun x76 => QG Try.prog C x69 false  (pure (Next.value (ρ 7))) fun x77 => QG Try.prog C x69 false  (pure (Next.value (ρ 4))) fun x78 => QG Try.prog C x69 false  (do pure (Next.value (← Instr.fieldAt 48 (ρ 1) 2))) fun x79 => QG Try.prog C x69 false  (do pure (Next.value (← Instr.fieldAt 24 x79 1))) fun x80 => QG Try.prog C x69 false  (do pure (Next.value (← Instr.loadAt 3 x80))) fun x81 => QG Try.prog C x69 false  (do pure (Next.value (← Instr.fieldAt 48 (ρ 1) 2))) fun x82 => QG Try.prog C x69 false  (do pure (Next.value (← Instr.fieldAt 24 x82 2))) fun x83 => QG Try.prog C x69 false  (do pure (Next.value (← Instr.loadAt 3 x83))) fun x84 => QG Try.prog C x69 false  (do let d ← Deferred.ofValue (Value.func (Fn.func 16) #[] #[]) [x77, x78, x81, x84].toArray; invoke d.target d.args) fun x85 => QG Try.prog C x69 false  (builtin Builtin.len #[31] 3 [false].toArray [x85].toArray) fun x86 => QG Try.prog C x69 false  (do pure (Next.value (← (do eqGuard BinOp.add 3 (Operand.tmp 76) (Operand.tmp 86) x76 x86; binOp BinOp.add 3 x76 x86)))) fun x87 => QG Try.prog C x69 false  (pure (Next.value (ρ 7))) fun x88 => QG Try.prog C x69 false  (pure (Next.value (ρ 4))) fun x89 => QG Try.prog C x69 false  (do pure (Next.value (← Instr.fieldAt 48 (ρ 1) 2))) fun x90 => QG Try.prog C x69 false  (do pure (Next.value (← Instr.loadAt 24 x90))) fun x91 => QG Try.prog C x69 false  (do let d ← Deferred.ofValue (Value.func (Fn.func 13) #[] #[]) [x88, x89, x91].toArray; invoke d.target d.args) fun x92 => QG Try.prog C x69 false  (builtin Builtin.len #[31] 3 [false].toArray [x92].toArray) fun x93 => QG Try.prog C x69 false  (do pure (Next.value (← (do eqGuard BinOp.add 3 (Operand.tmp 87) (Operand.tmp 93) x87 x93; binOp BinOp.add 3 x87 x93)))) fun x94 => QG Try.prog C x69 false  (do pure (Next.value (← (do eqGuard BinOp.neq 3 (Operand.tmp 94) (Operand.const (Value.int IntKind.i64 0)) x94 (Value.int IntKind.i64 0); binOp BinOp.neq 3 x94 (Value.int IntKind.i64 0))))) fun x95 => QK Try.prog C (do pure (Next.value (if ← asBool x69 then (Value.bool true) else x95))) fun x96 => ∀ w', C w' → K Exit.normal (up (up (up (up (up (up (up (up (up (up (up (up (up (up (up (up (up (up (up (up (up (up (up (up (up (up (up (up (up (up (up (up (up (up (up (up (up (up (up (up (up (up (up (up (up (up (up (up (up (up (up (up (up ρ 44 (ρ 9)) 45 (ρ 9)) 46 x46) 47 x47) 48 x48) 49 x49) 50 x50) 51 x51) 52 x51) 53 x53) 54 x54) 55 x55) 56 x56) 57 x57) 58 x58) 59 x59) 60 x60) 61 x61) 62 x62) 63 x63) 64 x64) 65 x65) 66 x66) 67 x67) 68 x68) 69 x69) 70 x69) 71 x71) 72 x72) 73 x73) 74 x74) 75 x75) 76 x76) 77 x77) 78 x78) 79 x79) 80 x80) 81 x81) 82 x82) 83 x83) 84 x84) 85 x85) 86 x86) 87 x87) 88 x88) 89 x89) 90 x90) 91 x91) 92 x92) 93 x93) 94 x94) 95 x95) 96 x96) w'
theorem dispatcherlaw14_PostedNil_R2_quiet {D : List Deferred} (C : World → Prop) {K : Exit → Sl → World → Prop} {ρ : Sl} {w : World} (hC : C { w with drawn := w.drawn + 1 }) (h : dispatcherlaw14_PostedNil_R2_Q C K ρ) : W ⟨none, D⟩ Try.prog 140 dispatcherlaw14_PostedNil_R2 K ρ w := by
  have e : dispatcherlaw14_PostedNil_R2 = .region (idOf dispatcherlaw14_PostedNil_R2) dispatcherlaw14_PostedNil_R2_ops true := by kernel_rfl
  have q : sxq Try.prog C dispatcherlaw14_PostedNil_R2_ops (fun ρ' => ∀ w', C w' → K .normal ρ' w') dispatcherlaw14_PostedNil_R2_ops.toList ρ = dispatcherlaw14_PostedNil_R2_Q C K ρ := by kernel_rfl
  rw [e]
  exact W_quiet C (by kernel_rfl) (by kernel_rfl) (by kernel_rfl) hC (Eq.mpr q h)
noncomputable def dispatcherlaw14_PostedNil_R3_F (z : At) (K : Exit → Sl → World → Prop) (ρ : Sl) (w : World) : Prop :=
  CondK (ρ 96) (K .ret (up ρ 2 (Value.bool false)) w) (K .normal ρ w)
theorem dispatcherlaw14_PostedNil_R3_eq (z : At) (K : Exit → Sl → World → Prop) (ρ : Sl) (w : World) : sx z Try.prog 140 dispatcherlaw14_PostedNil_R3 K ρ w = dispatcherlaw14_PostedNil_R3_F z K ρ w := by kernel_rfl
noncomputable def dispatcherlaw14_PostedNil_R4_F (z : At) (K : Exit → Sl → World → Prop) (ρ : Sl) (w : World) : Prop :=
  BK Try.prog .add 3 (.tmp 27) (.const (Value.int .i64 1)) (ρ 6) (Value.int .i64 1) w fun x28 w => K .normal (up (up (up ρ 27 (ρ 6)) 28 x28) 6 x28) w
theorem dispatcherlaw14_PostedNil_R4_eq (z : At) (K : Exit → Sl → World → Prop) (ρ : Sl) (w : World) : sx z Try.prog 140 dispatcherlaw14_PostedNil_R4 K ρ w = dispatcherlaw14_PostedNil_R4_F z K ρ w := by kernel_rfl
noncomputable def dispatcherlaw14_PostedNil_R5_ops : Array Oper := opsOf dispatcherlaw14_PostedNil_R5
def dispatcherlaw14_PostedNil_R5_Q (C : World → Prop) (K : Exit → Sl → World → Prop) (ρ : Sl) : Prop :=
  QK Try.prog C (do let d ← Deferred.ofValue (Value.func (Fn.func 28) #[] #[]) [(ρ 3)].toArray; invoke d.target d.args) fun x103 => QK Try.prog C (do pure (Next.value (← (do eqGuard BinOp.eql 28 (Operand.tmp 103) (Operand.const (Value.pointer none)) x103 (Value.pointer none); binOp BinOp.eql 28 x103 (Value.pointer none))))) fun x104 => QG Try.prog C x104 true  (pure (Next.value (ρ 10))) fun x106 => QG Try.prog C x104 true  (do pure (Next.value (← Instr.fieldAt 48 (ρ 1) 2))) fun x107 => QG Try.prog C x104 true  (do pure (Next.value (← Instr.fieldAt 24 x107 1))) fun x108 => QG Try.prog C x104 true  (do pure (Next.value (← Instr.loadAt 3 x108))) fun x109 => QG Try.prog C x104 true  (do pure (Next.value (← Instr.fieldAt 48 (ρ 1) 2))) fun x110 => QG Try.prog C x104 true  (do pure (Next.value (← Instr.fieldAt 24 x110 2))) fun x111 => QG Try.prog C x104 true  (do pure (Next.value (← Instr.loadAt 3 x111))) fun x112 => QG Try.prog C x104 true  (do let d ← Deferred.ofValue (Value.func (Fn.func 16) #[] #[]) [x106, (Value.pointer none), x109, x112].toArray; invoke d.target d.args) fun x113 => QG Try.prog C x104 true  (builtin Builtin.len #[31] 3 [false].toArray [x113].toArray) fun x114 => QG Try.prog C x104 true  (pure (Next.value (ρ 10))) fun x115 => QG Try.prog C x104 true  (do pure (Next.value (← Instr.fieldAt 48 (ρ 1) 2))) fun x116 => QG Try.prog C x104 true  (do pure (Next.value (← Instr.loadAt 24 x116))) fun x117 => QG Try.prog C x104 true  (do let d ← Deferred.ofValue (Value.func (Fn.func 13) #[] #[]) [x115, (Value.pointer none), x117].toArray; invoke d.target d.args) fun x118 => QG Try.prog C x104 true  (builtin Builtin.len #[31] 3 [false].toArray [x118].toArray) fun x119 => QG Try.prog C x104 true  (do pure (Next.value (← (do eqGuard BinOp.add 3 (Operand.tmp 114) (Operand.tmp 119) x114 x119; binOp BinOp.add 3 x114 x119)))) fun x120 => QG Try.prog C x104 true  (do pure (Next.value (← (do eqGuard BinOp.eql 3 (Operand.tmp 120) (Operand.const (Value.int IntKind.i64 0)) x120 (Value.int IntKind.i64 0); binOp BinOp.eql 3 x120 (Value.int IntKind.i64 0))))) fun x121 => QK Try.prog C (do pure (Next.value (if ← asBool x104 then x121 else (Value.bool false)))) fun x122 => QG Try.prog C x122 true  (pure (Next.value (ρ 10))) fun x124 => QG Try.prog C x122 true  (do pure (Next.value (← Instr.fieldAt 48 (ρ 1) 2))) fun x125 => QG Try.prog C x122 true  (do pure (Next.value (← Instr.fieldAt 24 x125 1))) fun x126 => QG Try.prog C x122 true  (do pure (Next.value (← Instr.loadAt 3 x126))) fun x127 => QG Try.prog C x122 true  (do pure (Next.value (← Instr.fieldAt 48 (ρ 1) 2))) fun x128 => QG Try.prog C x122 true  (do pure (Next.value (← Instr.fieldAt 24 x128 2))) fun x129 => QG Try.prog C x122 true  (do pure (Next.value (← Instr.loadAt 3 x129))) fun x130 => QG Try.prog C x122 true  (do pure (Next.value (← Instr.fieldAt 48 (ρ 1) 1))) fun x131 => QG Try.prog C x122 true  (do pure (Next.value (← Instr.fieldAt 39 x131 1))) fun x132 => QG Try.prog C x122 true  (do pure (Next.value (← Instr.loadAt 3 x132))) fun x133 => QG Try.prog C x122 true  (do pure (Next.value (← Instr.fieldAt 48 (ρ 1) 1))) fun x134 => QG Try.prog C x122 true  (do pure (Next.value (← Instr.fieldAt 39 x134 3))) fun x135 => QG Try.prog C x122 true  (do pure (Next.value (← Instr.loadAt 3 x135))) fun x136 => QG Try.prog C x122 true  (do let d ← Deferred.ofValue (Value.func (Fn.func 17) #[] #[]) [x124, (Value.pointer none), x127, x130, x133, x136].toArray; invoke d.target d.args) fun x137 => QG Try.prog C x122 true  (do pure (Next.value (← (do eqGuard BinOp.eql 33 (Operand.tmp 137) (Operand.const (Value.int IntKind.i64 2)) x137 (Value.int IntKind.i64 2); binOp BinOp.eql 33 x137 (Value.int IntKind.i64 2))))) fun x138 => QK Try.prog C (do pure (Next.value (if ← asBool x122 then x138 else (Value.bool false)))) fun x139 => ∀ w', C w' → K Exit.normal (up (up (up (up (up (up (up (up (up (up (up (up (up (up (up (up (up (up (up (up (up (up (up (up (up (up (up (up (up (up (up (up (up (up (up (up (up (up (up ρ 102 (ρ 3)) 103 x103) 104 x104) 105 x104) 106 x106) 107 x107) 108 x108) 109 x109) 110 x110) 111 x111) 112 x112) 113 x113) 114 x114) 115 x115) 116 x116) 117 x117) 118 x118) 119 x119) 120 x120) 121 x121) 122 x122) 123 x122) 124 x124) 125 x125) 126 x126) 127 x127) 128 x128) 129 x129) 130 x130) 131 x131) 132 x132) 133 x133) 134 x134) 135 x135) 136 x136) 137 x137) 138 x138) 139 x139) 2 x139) w'
theorem dispatcherlaw14_PostedNil_R5_quiet {D : List Deferred} (C : World → Prop) {K : Exit → Sl → World → Prop} {ρ : Sl} {w : World} (hC : C { w with drawn := w.drawn + 1 }) (h : dispatcherlaw14_PostedNil_R5_Q C K ρ) : W ⟨none, D⟩ Try.prog 140 dispatcherlaw14_PostedNil_R5 K ρ w := by
  have e : dispatcherlaw14_PostedNil_R5 = .region (idOf dispatcherlaw14_PostedNil_R5) dispatcherlaw14_PostedNil_R5_ops true := by kernel_rfl
  have q : sxq Try.prog C dispatcherlaw14_PostedNil_R5_ops (fun ρ' => ∀ w', C w' → K .normal ρ' w') dispatcherlaw14_PostedNil_R5_ops.toList ρ = dispatcherlaw14_PostedNil_R5_Q C K ρ := by kernel_rfl
  rw [e]
  exact W_quiet C (by kernel_rfl) (by kernel_rfl) (by kernel_rfl) hC (Eq.mpr q h)
noncomputable def dispatcherlaw14_PostedNil_R6_F (z : At) (K : Exit → Sl → World → Prop) (ρ : Sl) (w : World) : Prop :=
  K .ret ρ w
theorem dispatcherlaw14_PostedNil_R6_eq (z : At) (K : Exit → Sl → World → Prop) (ρ : Sl) (w : World) : sx z Try.prog 140 dispatcherlaw14_PostedNil_R6 K ρ w = dispatcherlaw14_PostedNil_R6_F z K ρ w := by kernel_rfl
noncomputable def dispatcherlaw14_PostedNil_F (a0 : Value) (w : World) (R : Value → World → Prop) : Prop :=
  VK Try.prog (Instr.box 48 a0) w fun x1 w => VK Try.prog (Instr.loadAt 48 x1) w fun x11 w => VK Try.prog (Instr.buildSlice 22 1 [(0, x11)].toArray) w fun x12 w => CK Try.prog (Value.func (Fn.func 11) #[] #[]) [x12] w fun x13 w => CondK x13 (R (Value.bool true) w) (CK Try.prog (Value.func (Fn.func 23) #[] #[]) [] w fun x14 w => VK Try.prog (Instr.fieldAt 48 x1 1) w fun x16 w => VK Try.prog (Instr.loadAt 39 x16) w fun x17 w => CK Try.prog (Value.func (Fn.func 25) #[] #[]) [x14, x17] w fun x18 w => VK Try.prog (Instr.build 61 [].toArray) w fun x20 w => VK Try.prog (Instr.box 61 x20) w fun x21 w => VK Try.prog (Instr.buildSlice 62 2 [(0, (Value.pointer none)), (1, x21)].toArray) w fun x22 w => W fn_ Try.prog 140 (Code.loop dispatcherlaw14_PostedNil_L0) (blkK 0 (seqK (sx fn_ Try.prog 140 dispatcherlaw14_PostedNil_R1 (retK Try.prog [ResultVar.tmp 2] R)) (retK Try.prog [ResultVar.tmp 2] R))) (up (up (up (up (up (up (up (up (up (up (up (up (up (up (up (up (up (up (rho0 [a0]) 1 x1) 2 (Value.bool false)) 11 x11) 12 x12) 13 x13) 3 (Value.pointer none)) 14 x14) 4 x14) 15 x14) 16 x16) 17 x17) 18 x18) 19 (Value.pointer none)) 20 x20) 21 x21) 22 x22) 5 x22) 6 (Value.int .i64 0)) w)
theorem dispatcherlaw14_PostedNil_eq (a0 : Value) (w : World) (R : Value → World → Prop) : sx fn_ Try.prog 140 dispatcherlaw14_PostedNil_b (retK Try.prog Try.f7.results.toList R) (rho0 [a0]) w = dispatcherlaw14_PostedNil_F a0 w R := by kernel_rfl
theorem dispatcherlaw14_PostedNil_calls {a0 : Value} {w : World} {R : Value → World → Prop} (h : dispatcherlaw14_PostedNil_F a0 w R) : Calls Try.prog 7 #[a0] w fun e w' => ∃ v, e = .returned v ∧ R v w' :=
  Go.X.calls_of_sx (n := 140) (c := dispatcherlaw14_PostedNil_b) Try.func7 (by kernel_rfl) (by kernel_rfl) (Nat.le_of_ble_eq_true rfl) (by kernel_rfl) (Eq.mpr (dispatcherlaw14_PostedNil_eq a0 w R) h)
noncomputable def dispatcherlaw14_Great_b : Code := (Try.f11.body).getD .skip
noncomputable def dispatcherlaw14_Great_L0 : Code := cAt [1, 1, 0, 1, 0, 0] dispatcherlaw14_Great_b
noncomputable def dispatcherlaw14_Great_R1 : Code := cAt [1, 1, 1] dispatcherlaw14_Great_b
noncomputable def dispatcherlaw14_Great_L0_F (z : At) (K : Exit → Sl → World → Prop) (ρ : Sl) (w : World) : Prop :=
  IK Try.prog .len #[22] 3 [false] [(ρ 0)] w fun x9 w => BK Try.prog .lss 3 (.tmp 7) (.tmp 9) (ρ 3) x9 w fun x10 w => CondK x10 (VK Try.prog (Instr.indexAt 22 (ρ 0) (ρ 3)) w fun x15 w => VK Try.prog (Instr.fieldAt 48 x15 1) w fun x16 w => VK Try.prog (Instr.fieldAt 39 x16 0) w fun x17 w => VK Try.prog (Instr.loadAt 9 x17) w fun x18 w => IK Try.prog .len #[9] 3 [false] [x18] w fun x19 w => BK Try.prog .gtr 3 (.tmp 19) (.const (Value.int .i64 100)) x19 (Value.int .i64 100) w fun x20 w => MG Try.prog x20 false (ρ 0) w fun x22 w => MG Try.prog x20 false (ρ 3) w fun x23 w => VG Try.prog x20 false (Instr.indexAt 22 x22 x23) w fun x24 w => VG Try.prog x20 false (Instr.fieldAt 48 x24 2) w fun x25 w => VG Try.prog x20 false (Instr.fieldAt 24 x25 0) w fun x26 w => VG Try.prog x20 false (Instr.loadAt 9 x26) w fun x27 w => IG Try.prog x20 false .len #[9] 3 [false] [x27] w fun x28 w => BG Try.prog x20 false .gtr 3 (.tmp 28) (.const (Value.int .i64 100)) x28 (Value.int .i64 100) w fun x29 w => PK Try.prog x20 (Value.bool true) x29 w fun x30 w => CondK x30 (K .ret (up (up (up (up (up (up (up (up (up (up (up (up (up (up (up (up (up (up (up (up (up (up (up ρ 7 (ρ 3)) 8 (ρ 0)) 9 x9) 10 x10) 13 (ρ 0)) 14 (ρ 3)) 15 x15) 16 x16) 17 x17) 18 x18) 19 x19) 20 x20) 21 x20) 22 x22) 23 x23) 24 x24) 25 x25) 26 x26) 27 x27) 28 x28) 29 x29) 30 x30) 2 (Value.bool true)) w) (BK Try.prog .add 3 (.tmp 11) (.const (Value.int .i64 1)) (ρ 3) (Value.int .i64 1) w fun x12 w => K .normal (up (up (up (up (up (up (up (up (up (up (up (up (up (up (up (up (up (up (up (up (up (up (up (up (up ρ 7 (ρ 3)) 8 (ρ 0)) 9 x9) 10 x10) 13 (ρ 0)) 14 (ρ 3)) 15 x15) 16 x16) 17 x17) 18 x18) 19 x19) 20 x20) 21 x20) 22 x22) 23 x23) 24 x24) 25 x25) 26 x26) 27 x27) 28 x28) 29 x29) 30 x30) 11 (ρ 3)) 12 x12) 3 x12) w)) (K (.exit 0) (up (up (up (up ρ 7 (ρ 3)) 8 (ρ 0)) 9 x9) 10 x10) w)
theorem dispatcherlaw14_Great_L0_eq (z : At) (K : Exit → Sl → World → Prop) (ρ : Sl) (w : World) : sx z Try.prog 31 dispatcherlaw14_Great_L0 K ρ w = dispatcherlaw14_Great_L0_F z K ρ w := by kernel_rfl
theorem dispatcherlaw14_Great_L0_ok : dstOk 31 dispatcherlaw14_Great_L0 = true := by kernel_rfl
noncomputable def dispatcherlaw14_Great_R1_F (z : At) (K : Exit → Sl → World → Prop) (ρ : Sl) (w : World) : Prop :=
  K .ret (up ρ 2 (Value.bool false)) w
theorem dispatcherlaw14_Great_R1_eq (z : At) (K : Exit → Sl → World → Prop) (ρ : Sl) (w : World) : sx z Try.prog 31 dispatcherlaw14_Great_R1 K ρ w = dispatcherlaw14_Great_R1_F z K ρ w := by kernel_rfl
noncomputable def dispatcherlaw14_Great_F (a0 : Value) (w : World) (R : Value → World → Prop) : Prop :=
  IK Try.prog .len #[22] 3 [false] [a0] w fun x5 w => BK Try.prog .gtr 3 (.tmp 5) (.const (Value.int .i64 120)) x5 (Value.int .i64 120) w fun x6 w => CondK x6 (R (Value.bool true) w) (W fn_ Try.prog 31 (Code.loop dispatcherlaw14_Great_L0) (blkK 0 (seqK (sx fn_ Try.prog 31 dispatcherlaw14_Great_R1 (retK Try.prog [ResultVar.tmp 2] R)) (retK Try.prog [ResultVar.tmp 2] R))) (up (up (up (up (up (rho0 [a0]) 2 (Value.bool false)) 4 a0) 5 x5) 6 x6) 3 (Value.int .i64 0)) w)
theorem dispatcherlaw14_Great_eq (a0 : Value) (w : World) (R : Value → World → Prop) : sx fn_ Try.prog 31 dispatcherlaw14_Great_b (retK Try.prog Try.f11.results.toList R) (rho0 [a0]) w = dispatcherlaw14_Great_F a0 w R := by kernel_rfl
theorem dispatcherlaw14_Great_calls {a0 : Value} {w : World} {R : Value → World → Prop} (h : dispatcherlaw14_Great_F a0 w R) : Calls Try.prog 11 #[a0] w fun e w' => ∃ v, e = .returned v ∧ R v w' :=
  Go.X.calls_of_sx (n := 31) (c := dispatcherlaw14_Great_b) Try.func11 (by kernel_rfl) (by kernel_rfl) (Nat.le_of_ble_eq_true rfl) (by kernel_rfl) (Eq.mpr (dispatcherlaw14_Great_eq a0 w R) h)
noncomputable def posted_Posted_Probe_b : Code := (Try.f13.body).getD .skip
noncomputable def posted_Posted_Probe_R0 : Code := cAt [1, 1, 0] posted_Posted_Probe_b
noncomputable def posted_Posted_Probe_R1 : Code := cAt [1, 1, 1] posted_Posted_Probe_b
noncomputable def posted_Posted_Probe_R0_ops : Array Oper := opsOf posted_Posted_Probe_R0
def posted_Posted_Probe_R0_H (S : World → Prop) (K : Exit → Sl → World → Prop) (ρ : Sl) (w : World) : Prop :=
  HK Try.prog S (do pure (Next.value (← Instr.loadAt 24 (ρ 5)))) fun x17_2 => HK Try.prog S (do pure (Next.value (← Instr.fieldAt 24 (ρ 5) 1))) fun x19_2 => HK Try.prog S (do pure (Next.value (← Instr.loadAt 3 x19_2))) fun x20_2 => CK Try.prog (Value.func (Fn.func 40) #[] #[]) [(ρ 0), x20_2] w fun x21_2 w => S w ∧ (CK Try.prog (Value.func (Fn.func 39) #[] #[]) [(ρ 1), x17_2, x21_2] w fun x22_2 w => S w ∧ (K Exit.normal (up (up (up (up (up (up (up (up ρ 16 (ρ 1)) 17 x17_2) 18 (ρ 0)) 19 x19_2) 20 x20_2) 21 x21_2) 22 x22_2) 6 x22_2) w))
theorem posted_Posted_Probe_R0_held {D : List Deferred} (S : World → Prop) {K : Exit → Sl → World → Prop} {ρ : Sl} {w : World} (hS : S { w with drawn := w.drawn + 1 }) (h : posted_Posted_Probe_R0_H S K ρ { w with drawn := w.drawn + 1 }) : W ⟨none, D⟩ Try.prog 23 posted_Posted_Probe_R0 K ρ w := by
  have e : posted_Posted_Probe_R0 = .region (idOf posted_Posted_Probe_R0) posted_Posted_Probe_R0_ops true := by kernel_rfl
  have q : sxh Try.prog S posted_Posted_Probe_R0_ops (K .normal) [(0, true), (1, true), (2, true), (3, true), (4, true), (5, false), (6, false), (7, true)] ρ { w with drawn := w.drawn + 1 } = posted_Posted_Probe_R0_H S K ρ { w with drawn := w.drawn + 1 } := by kernel_rfl
  rw [e]
  exact W_held S [(0, true), (1, true), (2, true), (3, true), (4, true), (5, false), (6, false), (7, true)] (by kernel_rfl) (by kernel_rfl) (by kernel_rfl) (by kernel_rfl) hS (Eq.mpr q h)
noncomputable def posted_Posted_Probe_R1_F (z : At) (K : Exit → Sl → World → Prop) (ρ : Sl) (w : World) : Prop :=
  K .ret ρ w
theorem posted_Posted_Probe_R1_eq (z : At) (K : Exit → Sl → World → Prop) (ρ : Sl) (w : World) : sx z Try.prog 23 posted_Posted_Probe_R1 K ρ w = posted_Posted_Probe_R1_F z K ρ w := by kernel_rfl
noncomputable def posted_Posted_Probe_F (a0 a1 a2 : Value) (w : World) (R : Value → World → Prop) : Prop :=
  VK Try.prog (Instr.box 24 a2) w fun x5 w => BK Try.prog .eql 28 (.tmp 7) (.const (Value.pointer none)) a0 (Value.pointer none) w fun x8 w => MG Try.prog x8 false a0 w fun x10 w => NG Try.prog x8 false x10 w fun x11 w => VG Try.prog x8 false (Instr.fieldAt 61 x11 0) w fun x12 w => VG Try.prog x8 false (Instr.loadAt 4 x12) w fun x13 w => VG Try.prog x8 false (Op.unary UnOp.not x13) w fun x14 w => PK Try.prog x8 (Value.bool true) x14 w fun x15 w => CondK x15 (R (Value.slice none 0 0) w) (W fn_ Try.prog 23 posted_Posted_Probe_R0 (seqK (sx fn_ Try.prog 23 posted_Posted_Probe_R1 (retK Try.prog [ResultVar.tmp 6] R)) (retK Try.prog [ResultVar.tmp 6] R)) (up (up (up (up (up (up (up (up (up (up (up (rho0 [a0, a1, a2]) 5 x5) 6 (Value.slice none 0 0)) 7 a0) 8 x8) 9 x8) 10 x10) 11 x11) 12 x12) 13 x13) 14 x14) 15 x15) w)
theorem posted_Posted_Probe_eq (a0 a1 a2 : Value) (w : World) (R : Value → World → Prop) : sx fn_ Try.prog 23 posted_Posted_Probe_b (retK Try.prog Try.f13.results.toList R) (rho0 [a0, a1, a2]) w = posted_Posted_Probe_F a0 a1 a2 w R := by kernel_rfl
theorem posted_Posted_Probe_calls {a0 a1 a2 : Value} {w : World} {R : Value → World → Prop} (h : posted_Posted_Probe_F a0 a1 a2 w R) : Calls Try.prog 13 #[a0, a1, a2] w fun e w' => ∃ v, e = .returned v ∧ R v w' :=
  Go.X.calls_of_sx (n := 23) (c := posted_Posted_Probe_b) Try.func13 (by kernel_rfl) (by kernel_rfl) (Nat.le_of_ble_eq_true rfl) (by kernel_rfl) (Eq.mpr (posted_Posted_Probe_eq a0 a1 a2 w R) h)
noncomputable def posted_Posted_Post_b : Code := (Try.f14.body).getD .skip
noncomputable def posted_Posted_Post_R0 : Code := cAt [1, 1, 1, 0, 0] posted_Posted_Post_b
noncomputable def posted_Posted_Post_R1 : Code := cAt [1, 1, 1, 0, 1] posted_Posted_Post_b
noncomputable def posted_Posted_Post_R2 : Code := cAt [1, 1, 1, 1] posted_Posted_Post_b
noncomputable def posted_Posted_Post_R3 : Code := cAt [1, 1, 1, 1, 1, 0] posted_Posted_Post_b
noncomputable def posted_Posted_Post_R4 : Code := cAt [1, 1, 1, 1, 1, 1] posted_Posted_Post_b
noncomputable def posted_Posted_Post_R0_ops : Array Oper := opsOf posted_Posted_Post_R0
def posted_Posted_Post_R0_Q (C : World → Prop) (K : Exit → Sl → World → Prop) (ρ : Sl) : Prop :=
  QK Try.prog C (do pure (Next.value (← Instr.fieldAt 24 (ρ 3) 1))) fun x19 => QK Try.prog C (do pure (Next.value (← Instr.loadAt 3 x19))) fun x20 => QK Try.prog C (do let d ← Deferred.ofValue (Value.func (Fn.func 41) #[] #[]) [x20, (Value.int IntKind.i64 0), (Value.int IntKind.i64 63)].toArray; invoke d.target d.args) fun x21 => QK Try.prog C (do pure (Next.value (← Op.unary UnOp.not x21))) fun x22 => QG Try.prog C x22 false  (do pure (Next.value (← Instr.fieldAt 24 (ρ 3) 3))) fun x24 => QG Try.prog C x22 false  (do pure (Next.value (← Instr.loadAt 3 x24))) fun x25 => QG Try.prog C x22 false  (do let d ← Deferred.ofValue (Value.func (Fn.func 41) #[] #[]) [x25, (Value.int IntKind.i64 (-1)), (Value.int IntKind.i64 63)].toArray; invoke d.target d.args) fun x26 => QG Try.prog C x22 false  (do pure (Next.value (← Op.unary UnOp.not x26))) fun x27 => QK Try.prog C (do pure (Next.value (if ← asBool x22 then (Value.bool true) else x27))) fun x28 => QG Try.prog C x28 false  (do pure (Next.value (← Instr.fieldAt 24 (ρ 3) 4))) fun x30 => QG Try.prog C x28 false  (do pure (Next.value (← Instr.loadAt 3 x30))) fun x31 => QG Try.prog C x28 false  (do let d ← Deferred.ofValue (Value.func (Fn.func 41) #[] #[]) [x31, (Value.int IntKind.i64 (-1)), (Value.int IntKind.i64 32767)].toArray; invoke d.target d.args) fun x32 => QG Try.prog C x28 false  (do pure (Next.value (← Op.unary UnOp.not x32))) fun x33 => QK Try.prog C (do pure (Next.value (if ← asBool x28 then (Value.bool true) else x33))) fun x34 => QG Try.prog C x34 false  (do pure (Next.value (← Instr.fieldAt 24 (ρ 3) 5))) fun x36 => QG Try.prog C x34 false  (do pure (Next.value (← Instr.loadAt 3 x36))) fun x37 => QG Try.prog C x34 false  (do pure (Next.value (← (do eqGuard BinOp.lss 3 (Operand.tmp 37) (Operand.const (Value.int IntKind.i64 (-1))) x37 (Value.int IntKind.i64 (-1)); binOp BinOp.lss 3 x37 (Value.int IntKind.i64 (-1)))))) fun x38 => QK Try.prog C (do pure (Next.value (if ← asBool x34 then (Value.bool true) else x38))) fun x39 => QG Try.prog C x39 false  (do pure (Next.value (← Instr.fieldAt 24 (ρ 3) 2))) fun x41 => QG Try.prog C x39 false  (do pure (Next.value (← Instr.loadAt 3 x41))) fun x42 => QG Try.prog C x39 false  (do pure (Next.value (← (do eqGuard BinOp.lss 3 (Operand.tmp 42) (Operand.const (Value.int IntKind.i64 0)) x42 (Value.int IntKind.i64 0); binOp BinOp.lss 3 x42 (Value.int IntKind.i64 0))))) fun x43 => QK Try.prog C (do pure (Next.value (if ← asBool x39 then (Value.bool true) else x43))) fun x44 => QG Try.prog C x44 false  (pure (Next.value (ρ 5))) fun x46 => QG Try.prog C x44 false  (builtin Builtin.len #[41] 3 [false].toArray [x46].toArray) fun x47 => QG Try.prog C x44 false  (do pure (Next.value (← (do eqGuard BinOp.gtr 3 (Operand.tmp 47) (Operand.const (Value.int IntKind.i64 0)) x47 (Value.int IntKind.i64 0); binOp BinOp.gtr 3 x47 (Value.int IntKind.i64 0))))) fun x48 => QG Try.prog C x44 false  (pure (Next.value x48)) fun x49 => QG Try.prog C x49 true  (do pure (Next.value (← Instr.fieldAt 24 (ρ 3) 2))) fun x50 => QG Try.prog C x49 true  (do pure (Next.value (← Instr.loadAt 3 x50))) fun x51 => QG Try.prog C x49 true  (pure (Next.value (ρ 5))) fun x52 => QG Try.prog C x49 true  (pure (Next.value (ρ 5))) fun x53 => QG Try.prog C x49 true  (builtin Builtin.len #[41] 3 [false].toArray [x53].toArray) fun x54 => QG Try.prog C x49 true  (do pure (Next.value (← (do eqGuard BinOp.sub 3 (Operand.tmp 54) (Operand.const (Value.int IntKind.i64 1)) x54 (Value.int IntKind.i64 1); binOp BinOp.sub 3 x54 (Value.int IntKind.i64 1))))) fun x55 => QG Try.prog C x49 true  (do pure (Next.value (← Instr.indexAt 41 x52 x55))) fun x56 => QG Try.prog C x49 true  (do pure (Next.value (← Instr.fieldAt 24 x56 2))) fun x57 => QG Try.prog C x49 true  (do pure (Next.value (← Instr.loadAt 3 x57))) fun x58 => QG Try.prog C x49 true  (do pure (Next.value (← (do eqGuard BinOp.leq 3 (Operand.tmp 51) (Operand.tmp 58) x51 x58; binOp BinOp.leq 3 x51 x58)))) fun x59 => QG Try.prog C x44 false  (do pure (Next.value (if ← asBool x49 then x59 else (Value.bool false)))) fun x60 => QK Try.prog C (do pure (Next.value (if ← asBool x44 then (Value.bool true) else x60))) fun x61 => ∀ w', C w' → K Exit.normal (up (up (up (up (up (up (up (up (up (up (up (up (up (up (up (up (up (up (up (up (up (up (up (up (up (up (up (up (up (up (up (up (up (up (up (up (up (up (up (up (up (up (up ρ 19 x19) 20 x20) 21 x21) 22 x22) 23 x22) 24 x24) 25 x25) 26 x26) 27 x27) 28 x28) 29 x28) 30 x30) 31 x31) 32 x32) 33 x33) 34 x34) 35 x34) 36 x36) 37 x37) 38 x38) 39 x39) 40 x39) 41 x41) 42 x42) 43 x43) 44 x44) 45 x44) 46 x46) 47 x47) 48 x48) 49 x49) 50 x50) 51 x51) 52 x52) 53 x53) 54 x54) 55 x55) 56 x56) 57 x57) 58 x58) 59 x59) 60 x60) 61 x61) w'
theorem posted_Posted_Post_R0_quiet {D : List Deferred} (C : World → Prop) {K : Exit → Sl → World → Prop} {ρ : Sl} {w : World} (hC : C { w with drawn := w.drawn + 1 }) (h : posted_Posted_Post_R0_Q C K ρ) : W ⟨none, D⟩ Try.prog 75 posted_Posted_Post_R0 K ρ w := by
  have e : posted_Posted_Post_R0 = .region (idOf posted_Posted_Post_R0) posted_Posted_Post_R0_ops true := by kernel_rfl
  have q : sxq Try.prog C posted_Posted_Post_R0_ops (fun ρ' => ∀ w', C w' → K .normal ρ' w') posted_Posted_Post_R0_ops.toList ρ = posted_Posted_Post_R0_Q C K ρ := by kernel_rfl
  rw [e]
  exact W_quiet C (by kernel_rfl) (by kernel_rfl) (by kernel_rfl) hC (Eq.mpr q h)
noncomputable def posted_Posted_Post_R1_F (z : At) (K : Exit → Sl → World → Prop) (ρ : Sl) (w : World) : Prop :=
  CondK (ρ 61) (K .ret (up ρ 4 (Value.int .i64 2)) w) (K .normal ρ w)
theorem posted_Posted_Post_R1_eq (z : At) (K : Exit → Sl → World → Prop) (ρ : Sl) (w : World) : sx z Try.prog 75 posted_Posted_Post_R1 K ρ w = posted_Posted_Post_R1_F z K ρ w := by kernel_rfl
noncomputable def posted_Posted_Post_R2_F (z : At) (K : Exit → Sl → World → Prop) (ρ : Sl) (w : World) : Prop :=
  VK Try.prog (Instr.fieldAt 24 (ρ 3) 6) w fun x62 w => UK Try.prog (Instr.storeAt 4 x62 (Value.bool false)) w fun _ w => VK Try.prog (Instr.fieldAt 24 (ρ 3) 7) w fun x63 w => UK Try.prog (Instr.storeAt 3 x63 (Value.int .i64 0)) w fun _ w => VK Try.prog (Instr.fieldAt 24 (ρ 3) 8) w fun x64 w => UK Try.prog (Instr.storeAt 3 x64 (Value.int .i64 0)) w fun _ w => W z Try.prog 75 posted_Posted_Post_R3 (seqK (sx z Try.prog 75 posted_Posted_Post_R4 K) K) (up (up (up ρ 62 x62) 63 x63) 64 x64) w
theorem posted_Posted_Post_R2_eq (z : At) (K : Exit → Sl → World → Prop) (ρ : Sl) (w : World) : sx z Try.prog 75 posted_Posted_Post_R2 K ρ w = posted_Posted_Post_R2_F z K ρ w := by kernel_rfl
noncomputable def posted_Posted_Post_R3_ops : Array Oper := opsOf posted_Posted_Post_R3
def posted_Posted_Post_R3_H (S : World → Prop) (K : Exit → Sl → World → Prop) (ρ : Sl) (w : World) : Prop :=
  HK Try.prog S (do pure (Next.value (← Instr.fieldAt 24 (ρ 3) 1))) fun x66 => HK Try.prog S (do pure (Next.value (← Instr.loadAt 3 x66))) fun x67 => HK Try.prog S (do pure (Next.value (← Instr.loadAt 24 (ρ 3)))) fun x69 => HK Try.prog S (nilCk (ρ 0)) fun x72 => HK Try.prog S (do pure (Next.value (← Instr.fieldAt 61 x72 1))) fun x73 => VK Try.prog (Instr.buildSlice 41 1 [(0, x69)].toArray) w fun x70 w => S w ∧ (IK Try.prog Builtin.append #[41, 41] 41 [false, false] [(ρ 5), x70] w fun x71 w => S w ∧ (HK Try.prog S (do pure (Next.value (← Instr.indexAt 59 x73 x67))) fun x74 => UK Try.prog (Instr.storeAt 41 x74 x71) w fun _ w => S w ∧ (K Exit.normal (up (up (up (up (up (up (up (up (up (up ρ 65 (ρ 0)) 66 x66) 67 x67) 68 (ρ 5)) 69 x69) 72 x72) 73 x73) 70 x70) 71 x71) 74 x74) w)))
theorem posted_Posted_Post_R3_held {D : List Deferred} (S : World → Prop) {K : Exit → Sl → World → Prop} {ρ : Sl} {w : World} (hS : S { w with drawn := w.drawn + 1 }) (h : posted_Posted_Post_R3_H S K ρ { w with drawn := w.drawn + 1 }) : W ⟨none, D⟩ Try.prog 75 posted_Posted_Post_R3 K ρ w := by
  have e : posted_Posted_Post_R3 = .region (idOf posted_Posted_Post_R3) posted_Posted_Post_R3_ops true := by kernel_rfl
  have q : sxh Try.prog S posted_Posted_Post_R3_ops (K .normal) [(0, true), (1, true), (2, true), (3, true), (4, true), (7, true), (8, true), (5, false), (6, false), (9, true), (10, false)] ρ { w with drawn := w.drawn + 1 } = posted_Posted_Post_R3_H S K ρ { w with drawn := w.drawn + 1 } := by kernel_rfl
  rw [e]
  exact W_held S [(0, true), (1, true), (2, true), (3, true), (4, true), (7, true), (8, true), (5, false), (6, false), (9, true), (10, false)] (by kernel_rfl) (by kernel_rfl) (by kernel_rfl) (by kernel_rfl) hS (Eq.mpr q h)
noncomputable def posted_Posted_Post_R4_F (z : At) (K : Exit → Sl → World → Prop) (ρ : Sl) (w : World) : Prop :=
  K .ret (up ρ 4 (Value.int .i64 0)) w
theorem posted_Posted_Post_R4_eq (z : At) (K : Exit → Sl → World → Prop) (ρ : Sl) (w : World) : sx z Try.prog 75 posted_Posted_Post_R4 K ρ w = posted_Posted_Post_R4_F z K ρ w := by kernel_rfl
noncomputable def posted_Posted_Post_F (a0 a1 : Value) (w : World) (R : Value → World → Prop) : Prop :=
  VK Try.prog (Instr.box 24 a1) w fun x3 w => BK Try.prog .eql 28 (.tmp 6) (.const (Value.pointer none)) a0 (Value.pointer none) w fun x7 w => MG Try.prog x7 false a0 w fun x9 w => NG Try.prog x7 false x9 w fun x10 w => VG Try.prog x7 false (Instr.fieldAt 61 x10 0) w fun x11 w => VG Try.prog x7 false (Instr.loadAt 4 x11) w fun x12 w => VG Try.prog x7 false (Op.unary UnOp.not x12) w fun x13 w => PK Try.prog x7 (Value.bool true) x13 w fun x14 w => CondK x14 (R (Value.int .i64 1) w) (VK Try.prog (Instr.fieldAt 24 x3 1) w fun x16 w => VK Try.prog (Instr.loadAt 3 x16) w fun x17 w => CK Try.prog (Value.func (Fn.func 40) #[] #[]) [a0, x17] w fun x18 w => W fn_ Try.prog 75 posted_Posted_Post_R0 (seqK (sx fn_ Try.prog 75 posted_Posted_Post_R1 (seqK (sx fn_ Try.prog 75 posted_Posted_Post_R2 (retK Try.prog [ResultVar.tmp 4] R)) (retK Try.prog [ResultVar.tmp 4] R))) (seqK (sx fn_ Try.prog 75 posted_Posted_Post_R2 (retK Try.prog [ResultVar.tmp 4] R)) (retK Try.prog [ResultVar.tmp 4] R))) (up (up (up (up (up (up (up (up (up (up (up (up (up (up (up (up (rho0 [a0, a1]) 3 x3) 4 (Value.int .i64 0)) 6 a0) 7 x7) 8 x7) 9 x9) 10 x10) 11 x11) 12 x12) 13 x13) 14 x14) 15 a0) 16 x16) 17 x17) 18 x18) 5 x18) w)
theorem posted_Posted_Post_eq (a0 a1 : Value) (w : World) (R : Value → World → Prop) : sx fn_ Try.prog 75 posted_Posted_Post_b (retK Try.prog Try.f14.results.toList R) (rho0 [a0, a1]) w = posted_Posted_Post_F a0 a1 w R := by kernel_rfl
theorem posted_Posted_Post_calls {a0 a1 : Value} {w : World} {R : Value → World → Prop} (h : posted_Posted_Post_F a0 a1 w R) : Calls Try.prog 14 #[a0, a1] w fun e w' => ∃ v, e = .returned v ∧ R v w' :=
  Go.X.calls_of_sx (n := 75) (c := posted_Posted_Post_b) Try.func14 (by kernel_rfl) (by kernel_rfl) (Nat.le_of_ble_eq_true rfl) (by kernel_rfl) (Eq.mpr (posted_Posted_Post_eq a0 a1 w R) h)
noncomputable def posted_Posted_May_b : Code := (Try.f16.body).getD .skip
noncomputable def posted_Posted_May_R0 : Code := cAt [1, 1, 1, 1, 1, 0] posted_Posted_May_b
noncomputable def posted_Posted_May_R1 : Code := cAt [1, 1, 1, 1, 1, 1] posted_Posted_May_b
noncomputable def posted_Posted_May_R0_ops : Array Oper := opsOf posted_Posted_May_R0
def posted_Posted_May_R0_T (K : Exit → Sl → World → Prop) (ρ : Sl) (w : World) : Prop :=
  let C : World → Prop := fun w' => w' = w; QK Try.prog C (do pure (Next.value (← Instr.indexAt 41 (ρ 10) (ρ 9)))) fun x28_1 => QK Try.prog C (do pure (Next.value (← Instr.loadAt 24 x28_1))) fun x29_1 => QK Try.prog C (do pure (Next.value (← Instr.sliceAt 41 (ρ 10) none (some (ρ 9)) none))) fun x32_1 => CK Try.prog (Value.func (Fn.func 39) #[] #[]) [(ρ 1), x29_1, x32_1] w fun x33_1 w => K Exit.normal (up (up (up (up (up (up (up (up (up (up ρ 25 (ρ 1)) 26 (ρ 10)) 27 (ρ 9)) 28 x28_1) 29 x29_1) 30 (ρ 10)) 31 (ρ 9)) 32 x32_1) 33 x33_1) 8 x33_1) w
theorem posted_Posted_May_R0_tail {D : List Deferred} {K : Exit → Sl → World → Prop} {ρ : Sl} {w : World} (h : posted_Posted_May_R0_T K ρ { w with drawn := w.drawn + 1 }) : W ⟨none, D⟩ Try.prog 34 posted_Posted_May_R0 K ρ w := by
  have e : posted_Posted_May_R0 = .region (idOf posted_Posted_May_R0) posted_Posted_May_R0_ops true := by kernel_rfl
  have q : sxq Try.prog (fun w' => w' = { w with drawn := w.drawn + 1 }) posted_Posted_May_R0_ops (fun ρ' => sxL Try.prog posted_Posted_May_R0_ops (K .normal) (posted_Posted_May_R0_ops.toList.drop 8) ρ' { w with drawn := w.drawn + 1 }) (posted_Posted_May_R0_ops.toList.take 8) ρ = posted_Posted_May_R0_T K ρ { w with drawn := w.drawn + 1 } := by kernel_rfl
  rw [e]
  exact W_tail 8 (by kernel_rfl) (by kernel_rfl) (by kernel_rfl) (by kernel_rfl) (Eq.mpr q h)
noncomputable def posted_Posted_May_R1_F (z : At) (K : Exit → Sl → World → Prop) (ρ : Sl) (w : World) : Prop :=
  K .ret ρ w
theorem posted_Posted_May_R1_eq (z : At) (K : Exit → Sl → World → Prop) (ρ : Sl) (w : World) : sx z Try.prog 34 posted_Posted_May_R1 K ρ w = posted_Posted_May_R1_F z K ρ w := by kernel_rfl
noncomputable def posted_Posted_May_F (a0 a1 a2 a3 : Value) (w : World) (R : Value → World → Prop) : Prop :=
  CK Try.prog (Value.func (Fn.func 42) #[] #[]) [a0, a2, a3] w fun x14 w => BK Try.prog .lss 3 (.tmp 15) (.const (Value.int .i64 0)) x14 (Value.int .i64 0) w fun x16 w => CondK x16 (R (Value.slice none 0 0) w) (CK Try.prog (Value.func (Fn.func 40) #[] #[]) [a0, a2] w fun x19 w => VK Try.prog (Instr.indexAt 41 x19 x14) w fun x22 w => VK Try.prog (Instr.fieldAt 24 x22 6) w fun x23 w => VK Try.prog (Instr.loadAt 4 x23) w fun x24 w => CondK x24 (R (Value.slice none 0 0) w) (W fn_ Try.prog 34 posted_Posted_May_R0 (seqK (sx fn_ Try.prog 34 posted_Posted_May_R1 (retK Try.prog [ResultVar.tmp 8] R)) (retK Try.prog [ResultVar.tmp 8] R)) (up (up (up (up (up (up (up (up (up (up (up (up (up (up (up (up (up (rho0 [a0, a1, a2, a3]) 8 (Value.slice none 0 0)) 11 a0) 12 a2) 13 a3) 14 x14) 9 x14) 15 x14) 16 x16) 17 a0) 18 a2) 19 x19) 10 x19) 20 x19) 21 x14) 22 x22) 23 x23) 24 x24) w))
theorem posted_Posted_May_eq (a0 a1 a2 a3 : Value) (w : World) (R : Value → World → Prop) : sx fn_ Try.prog 34 posted_Posted_May_b (retK Try.prog Try.f16.results.toList R) (rho0 [a0, a1, a2, a3]) w = posted_Posted_May_F a0 a1 a2 a3 w R := by kernel_rfl
theorem posted_Posted_May_calls {a0 a1 a2 a3 : Value} {w : World} {R : Value → World → Prop} (h : posted_Posted_May_F a0 a1 a2 a3 w R) : Calls Try.prog 16 #[a0, a1, a2, a3] w fun e w' => ∃ v, e = .returned v ∧ R v w' :=
  Go.X.calls_of_sx (n := 34) (c := posted_Posted_May_b) Try.func16 (by kernel_rfl) (by kernel_rfl) (Nat.le_of_ble_eq_true rfl) (by kernel_rfl) (Eq.mpr (posted_Posted_May_eq a0 a1 a2 a3 w R) h)
noncomputable def posted_Posted_Match_b : Code := (Try.f17.body).getD .skip
noncomputable def posted_Posted_Match_R0 : Code := cAt [1, 1, 1, 0, 1] posted_Posted_Match_b
noncomputable def posted_Posted_Match_R1 : Code := cAt [1, 1, 1, 1] posted_Posted_Match_b
noncomputable def posted_Posted_Match_R0_F (z : At) (K : Exit → Sl → World → Prop) (ρ : Sl) (w : World) : Prop :=
  CondK (ρ 39) (K .ret (up ρ 12 (Value.int .i64 2)) w) (K .normal ρ w)
theorem posted_Posted_Match_R0_eq (z : At) (K : Exit → Sl → World → Prop) (ρ : Sl) (w : World) : sx z Try.prog 62 posted_Posted_Match_R0 K ρ w = posted_Posted_Match_R0_F z K ρ w := by kernel_rfl
noncomputable def posted_Posted_Match_F (a0 a1 a2 a3 a4 a5 : Value) (w : World) (R : Value → World → Prop) : Prop :=
  VK Try.prog (Instr.box 3 a4) w fun x10 w => VK Try.prog (Instr.box 3 a5) w fun x11 w => BK Try.prog .eql 28 (.tmp 15) (.const (Value.pointer none)) a0 (Value.pointer none) w fun x16 w => MG Try.prog x16 false a0 w fun x18 w => NG Try.prog x16 false x18 w fun x19 w => VG Try.prog x16 false (Instr.fieldAt 61 x19 0) w fun x20 w => VG Try.prog x16 false (Instr.loadAt 4 x20) w fun x21 w => VG Try.prog x16 false (Op.unary UnOp.not x21) w fun x22 w => PK Try.prog x16 (Value.bool true) x22 w fun x23 w => CondK x23 (R (Value.int .i64 1) w) (VK Try.prog (Instr.makeFunc (Fn.func 43) [].toArray [x10, x11].toArray) w fun x24 w => CK Try.prog (Value.func (Fn.func 16) #[] #[]) [a0, a1, a2, a3] w fun x29 w => CK Try.prog (Value.func (Fn.func 44) #[] #[]) [x29, x24] w fun x31 w => VK Try.prog (Op.unary UnOp.not x31) w fun x32 w => MG Try.prog x32 false a1 w fun x34 w => VG Try.prog x32 false (Instr.loadAt 3 x10) w fun x35 w => VG Try.prog x32 false (Instr.loadAt 3 x11) w fun x36 w => CG Try.prog x32 false (Value.func (Fn.func 45) #[] #[]) [x34, x35, x36] w fun x37 w => BG Try.prog x32 false .neq 33 (.tmp 37) (.const (Value.int .i64 0)) x37 (Value.int .i64 0) w fun x38 w => PK Try.prog x32 (Value.bool true) x38 w fun x39 w => sx fn_ Try.prog 62 posted_Posted_Match_R0 (seqK (sx fn_ Try.prog 62 posted_Posted_Match_R1 (retK Try.prog [ResultVar.tmp 12] R)) (retK Try.prog [ResultVar.tmp 12] R)) (up (up (up (up (up (up (up (up (up (up (up (up (up (up (up (up (up (up (up (up (up (up (up (up (up (up (up (up (up (rho0 [a0, a1, a2, a3, a4, a5]) 10 x10) 11 x11) 12 (Value.int .i64 0)) 15 a0) 16 x16) 17 x16) 18 x18) 19 x19) 20 x20) 21 x21) 22 x22) 23 x23) 24 x24) 13 x24) 25 a0) 26 a1) 27 a2) 28 a3) 29 x29) 30 x24) 31 x31) 32 x32) 33 x32) 34 x34) 35 x35) 36 x36) 37 x37) 38 x38) 39 x39) w)
theorem posted_Posted_Match_eq (a0 a1 a2 a3 a4 a5 : Value) (w : World) (R : Value → World → Prop) : sx fn_ Try.prog 62 posted_Posted_Match_b (retK Try.prog Try.f17.results.toList R) (rho0 [a0, a1, a2, a3, a4, a5]) w = posted_Posted_Match_F a0 a1 a2 a3 a4 a5 w R := by kernel_rfl
theorem posted_Posted_Match_calls {a0 a1 a2 a3 a4 a5 : Value} {w : World} {R : Value → World → Prop} (h : posted_Posted_Match_F a0 a1 a2 a3 a4 a5 w R) : Calls Try.prog 17 #[a0, a1, a2, a3, a4, a5] w fun e w' => ∃ v, e = .returned v ∧ R v w' :=
  Go.X.calls_of_sx (n := 62) (c := posted_Posted_Match_b) Try.func17 (by kernel_rfl) (by kernel_rfl) (Nat.le_of_ble_eq_true rfl) (by kernel_rfl) (Eq.mpr (posted_Posted_Match_eq a0 a1 a2 a3 a4 a5 w R) h)
noncomputable def posted_Posted_Waiting_b : Code := (Try.f18.body).getD .skip
noncomputable def posted_Posted_Waiting_F (a0 a1 : Value) (w : World) (R : Value → World → Prop) : Prop :=
  CK Try.prog (Value.func (Fn.func 40) #[] #[]) [a0, a1] w fun x7 w => CK Try.prog (Value.func (Fn.func 46) #[] #[]) [x7, (Value.func (Fn.func 47) #[] #[])] w fun x8 w => R x8 w
theorem posted_Posted_Waiting_eq (a0 a1 : Value) (w : World) (R : Value → World → Prop) : sx fn_ Try.prog 9 posted_Posted_Waiting_b (retK Try.prog Try.f18.results.toList R) (rho0 [a0, a1]) w = posted_Posted_Waiting_F a0 a1 w R := by kernel_rfl
theorem posted_Posted_Waiting_calls {a0 a1 : Value} {w : World} {R : Value → World → Prop} (h : posted_Posted_Waiting_F a0 a1 w R) : Calls Try.prog 18 #[a0, a1] w fun e w' => ∃ v, e = .returned v ∧ R v w' :=
  Go.X.calls_of_sx (n := 9) (c := posted_Posted_Waiting_b) Try.func18 (by kernel_rfl) (by kernel_rfl) (Nat.le_of_ble_eq_true rfl) (by kernel_rfl) (Eq.mpr (posted_Posted_Waiting_eq a0 a1 w R) h)
noncomputable def posted_Posted_At_b : Code := (Try.f21.body).getD .skip
noncomputable def posted_Posted_At_F (a0 a1 a2 : Value) (w : World) (R : Value → World → Prop) : Prop :=
  VK Try.prog (Instr.alloc 24 true (.tuple #[])) w fun x6 w => CK Try.prog (Value.func (Fn.func 42) #[] #[]) [a0, a1, a2] w fun x12 w => BK Try.prog .lss 3 (.tmp 13) (.const (Value.int .i64 0)) x12 (Value.int .i64 0) w fun x14 w => CondK x14 (VK Try.prog (Instr.build 24 [].toArray) w fun x15 w => UK Try.prog (Instr.storeAt 24 x6 x15) w fun _ w => ∃ x6_1, (do loadVar 24 (← asAddr x6) : Sem Value).run Try.prog w = .ok x6_1 w ∧ R (Value.tuple #[x6_1, (Value.bool false)]) w) (CK Try.prog (Value.func (Fn.func 40) #[] #[]) [a0, a1] w fun x18 w => VK Try.prog (Instr.indexAt 41 x18 x12) w fun x20 w => VK Try.prog (Instr.loadAt 24 x20) w fun x21 w => UK Try.prog (Instr.storeAt 24 x6 x21) w fun _ w => ∃ x6_2, (do loadVar 24 (← asAddr x6) : Sem Value).run Try.prog w = .ok x6_2 w ∧ R (Value.tuple #[x6_2, (Value.bool true)]) w)
theorem posted_Posted_At_eq (a0 a1 a2 : Value) (w : World) (R : Value → World → Prop) : sx fn_ Try.prog 22 posted_Posted_At_b (retK Try.prog Try.f21.results.toList R) (rho0 [a0, a1, a2]) w = posted_Posted_At_F a0 a1 a2 w R := by kernel_rfl
theorem posted_Posted_At_calls {a0 a1 a2 : Value} {w : World} {R : Value → World → Prop} (h : posted_Posted_At_F a0 a1 a2 w R) : Calls Try.prog 21 #[a0, a1, a2] w fun e w' => ∃ v, e = .returned v ∧ R v w' :=
  Go.X.calls_of_sx (n := 22) (c := posted_Posted_At_b) Try.func21 (by kernel_rfl) (by kernel_rfl) (Nat.le_of_ble_eq_true rfl) (by kernel_rfl) (Eq.mpr (posted_Posted_At_eq a0 a1 a2 w R) h)
noncomputable def posted_New_b : Code := (Try.f24.body).getD .skip
noncomputable def posted_New_F (w : World) (R : Value → World → Prop) : Prop :=
  VK Try.prog (Instr.build 61 [(0, (Value.bool true))].toArray) w fun x1 w => VK Try.prog (Instr.box 61 x1) w fun x2 w => R x2 w
theorem posted_New_calls {w : World} {R : Value → World → Prop} (h : posted_New_F  w R) : Calls Try.prog 24 #[] w fun e w' => ∃ v, e = .returned v ∧ R v w' :=
  Go.X.calls_eq (n := 3) (c := posted_New_b) (fn := Try.f24) (args := #[]) (F := posted_New_F  w R) (R := R) Try.func24 (by kernel_rfl) (by kernel_rfl) (Nat.le_of_ble_eq_true rfl) (by kernel_rfl) (by kernel_rfl) h
noncomputable def posted_Posted_Copy_b : Code := (Try.f28.body).getD .skip
noncomputable def posted_Posted_Copy_L0 : Code := cAt [1, 1, 1, 0, 1, 0, 0] posted_Posted_Copy_b
noncomputable def posted_Posted_Copy_R1 : Code := cAt [1, 1, 1, 1] posted_Posted_Copy_b
noncomputable def posted_Posted_Copy_F (a0 : Value) (w : World) (R : Value → World → Prop) : Prop :=
  BK Try.prog .eql 28 (.tmp 6) (.const (Value.pointer none)) a0 (Value.pointer none) w fun x7 w => CondK x7 (R (Value.pointer none) w) (NK Try.prog a0 w fun x9 w => VK Try.prog (Instr.loadAt 61 x9) w fun x10 w => VK Try.prog (Instr.alloc 61 true (.tuple #[])) w fun x3 w => UK Try.prog (Instr.storeAt 61 x3 x10) w fun _ w => VK Try.prog (Instr.fieldAt 61 x3 1) w fun x11 w => VK Try.prog (Instr.loadAt 59 x11) w fun x12 w => W fn_ Try.prog 23 (Code.loop posted_Posted_Copy_L0) (blkK 0 (seqK (sx fn_ Try.prog 23 posted_Posted_Copy_R1 (retK Try.prog [ResultVar.tmp 2] R)) (retK Try.prog [ResultVar.tmp 2] R))) (up (up (up (up (up (up (up (up (up (up (rho0 [a0]) 2 (Value.pointer none)) 6 a0) 7 x7) 8 a0) 9 x9) 10 x10) 3 x3) 11 x11) 12 x12) 13 (Value.int .i64 0)) w)
theorem posted_Posted_Copy_eq (a0 : Value) (w : World) (R : Value → World → Prop) : sx fn_ Try.prog 23 posted_Posted_Copy_b (retK Try.prog Try.f28.results.toList R) (rho0 [a0]) w = posted_Posted_Copy_F a0 w R := by kernel_rfl
theorem posted_Posted_Copy_calls {a0 : Value} {w : World} {R : Value → World → Prop} (h : posted_Posted_Copy_F a0 w R) : Calls Try.prog 28 #[a0] w fun e w' => ∃ v, e = .returned v ∧ R v w' :=
  Go.X.calls_of_sx (n := 23) (c := posted_Posted_Copy_b) Try.func28 (by kernel_rfl) (by kernel_rfl) (Nat.le_of_ble_eq_true rfl) (by kernel_rfl) (Eq.mpr (posted_Posted_Copy_eq a0 w R) h)
noncomputable def posted_free_b : Code := (Try.f39.body).getD .skip
noncomputable def posted_free_L0 : Code := cAt [1, 1, 1, 0, 1, 0, 0] posted_free_b
noncomputable def posted_free_R1 : Code := cAt [1, 1, 1, 1] posted_free_b
noncomputable def posted_free_R2 : Code := cAt [1, 1, 1, 0, 1, 0, 0, 1, 1, 1] posted_free_b
noncomputable def posted_free_R3 : Code := cAt [1, 1, 1, 0, 1, 0, 0, 1, 1, 0, 0, 1, 1, 1] posted_free_b
noncomputable def posted_free_L0_F (z : At) (K : Exit → Sl → World → Prop) (ρ : Sl) (w : World) : Prop :=
  BK Try.prog .lss 3 (.tmp 23) (.tmp 22) (ρ 23) (ρ 22) w fun x24 w => CondK x24 (VK Try.prog (Instr.indexAt 107 (ρ 21) (ρ 23)) w fun x25 w => VK Try.prog (Instr.loadAt 3 x25) w fun x26 w => VK Try.prog (Instr.fieldAt 24 (ρ 4) 3) w fun x27 w => VK Try.prog (Instr.loadAt 3 x27) w fun x28 w => BK Try.prog .neq 3 (.tmp 28) (.const (Value.int .i64 (-1))) x28 (Value.int .i64 (-1)) w fun x29 w => VG Try.prog x29 true (Instr.fieldAt 24 (ρ 4) 3) w fun x31 w => VG Try.prog x29 true (Instr.loadAt 3 x31) w fun x32 w => MG Try.prog x29 true x26 w fun x33 w => BG Try.prog x29 true .neq 3 (.tmp 32) (.tmp 33) x32 x33 w fun x34 w => PK Try.prog x29 x34 (Value.bool false) w fun x35 w => CondK x35 (sx z Try.prog 62 posted_free_R2 K (up (up (up (up (up (up (up (up (up (up (up (up (up ρ 24 x24) 25 x25) 26 x26) 10 x26) 27 x27) 28 x28) 29 x29) 30 x29) 31 x31) 32 x32) 33 x33) 34 x34) 35 x35) w) (VK Try.prog (Instr.fieldAt 24 (ρ 4) 0) w fun x38 w => VK Try.prog (Instr.loadAt 9 x38) w fun x39 w => VK Try.prog (Instr.fieldAt 24 (ρ 4) 1) w fun x41 w => VK Try.prog (Instr.loadAt 3 x41) w fun x42 w => VK Try.prog (Instr.fieldAt 24 (ρ 4) 4) w fun x43 w => VK Try.prog (Instr.loadAt 3 x43) w fun x44 w => CK Try.prog (Value.func (Fn.func 63) #[] #[]) [(ρ 0), x39, x26, x42, x44] w fun x45 w => VK Try.prog (Instr.extract x45 0) w fun x46 w => VK Try.prog (Instr.extract x45 1) w fun x47 w => VK Try.prog (Instr.alloc 39 true (.tuple #[])) w fun x11 w => UK Try.prog (Instr.storeAt 39 x11 x46) w fun _ w => sx z Try.prog 62 posted_free_R3 (blkK 1 (seqK (sx z Try.prog 62 posted_free_R2 K) K)) (up (up (up (up (up (up (up (up (up (up (up (up (up (up (up (up (up (up (up (up (up (up (up (up (up (up (up ρ 24 x24) 25 x25) 26 x26) 10 x26) 27 x27) 28 x28) 29 x29) 30 x29) 31 x31) 32 x32) 33 x33) 34 x34) 35 x35) 37 (ρ 0)) 38 x38) 39 x39) 40 x26) 41 x41) 42 x42) 43 x43) 44 x44) 45 x45) 36 x45) 46 x46) 47 x47) 11 x11) 12 x47) w)) (K (.exit 0) (up ρ 24 x24) w)
theorem posted_free_L0_eq (z : At) (K : Exit → Sl → World → Prop) (ρ : Sl) (w : World) : sx z Try.prog 62 posted_free_L0 K ρ w = posted_free_L0_F z K ρ w := by kernel_rfl
theorem posted_free_L0_ok : dstOk 62 posted_free_L0 = true := by kernel_rfl
noncomputable def posted_free_R1_F (z : At) (K : Exit → Sl → World → Prop) (ρ : Sl) (w : World) : Prop :=
  K .ret (up (up ρ 61 (ρ 7)) 6 (ρ 7)) w
theorem posted_free_R1_eq (z : At) (K : Exit → Sl → World → Prop) (ρ : Sl) (w : World) : sx z Try.prog 62 posted_free_R1 K ρ w = posted_free_R1_F z K ρ w := by kernel_rfl
noncomputable def posted_free_F (a0 a1 a2 : Value) (w : World) (R : Value → World → Prop) : Prop :=
  VK Try.prog (Instr.box 24 a1) w fun x4 w => CK Try.prog (Value.func (Fn.func 46) #[] #[]) [a2, (Value.func (Fn.func 47) #[] #[])] w fun x15 w => VK Try.prog (Instr.fieldAt 24 x4 0) w fun x17 w => VK Try.prog (Instr.loadAt 9 x17) w fun x18 w => VK Try.prog (Instr.fieldAt 24 x4 1) w fun x19 w => VK Try.prog (Instr.loadAt 3 x19) w fun x20 w => CK Try.prog (Value.func (Fn.func 62) #[] #[]) [a0, x18, x20] w fun x21 w => IK Try.prog .len #[107] 3 [false] [x21] w fun x22 w => W fn_ Try.prog 62 (Code.loop posted_free_L0) (blkK 0 (seqK (sx fn_ Try.prog 62 posted_free_R1 (retK Try.prog [ResultVar.tmp 6] R)) (retK Try.prog [ResultVar.tmp 6] R))) (up (up (up (up (up (up (up (up (up (up (up (up (up (up (rho0 [a0, a1, a2]) 4 x4) 6 (Value.slice none 0 0)) 7 (Value.slice none 0 0)) 14 a2) 15 x15) 8 x15) 16 a0) 17 x17) 18 x18) 19 x19) 20 x20) 21 x21) 22 x22) 23 (Value.int .i64 0)) w
theorem posted_free_eq (a0 a1 a2 : Value) (w : World) (R : Value → World → Prop) : sx fn_ Try.prog 62 posted_free_b (retK Try.prog Try.f39.results.toList R) (rho0 [a0, a1, a2]) w = posted_free_F a0 a1 a2 w R := by kernel_rfl
theorem posted_free_calls {a0 a1 a2 : Value} {w : World} {R : Value → World → Prop} (h : posted_free_F a0 a1 a2 w R) : Calls Try.prog 39 #[a0, a1, a2] w fun e w' => ∃ v, e = .returned v ∧ R v w' :=
  Go.X.calls_of_sx (n := 62) (c := posted_free_b) Try.func39 (by kernel_rfl) (by kernel_rfl) (Nat.le_of_ble_eq_true rfl) (by kernel_rfl) (Eq.mpr (posted_free_eq a0 a1 a2 w R) h)
noncomputable def posted_Posted_of_b : Code := (Try.f40.body).getD .skip
noncomputable def posted_Posted_of_F (a0 a1 : Value) (w : World) (R : Value → World → Prop) : Prop :=
  BK Try.prog .eql 28 (.tmp 5) (.const (Value.pointer none)) a0 (Value.pointer none) w fun x6 w => MG Try.prog x6 false a0 w fun x8 w => NG Try.prog x6 false x8 w fun x9 w => VG Try.prog x6 false (Instr.fieldAt 61 x9 0) w fun x10 w => VG Try.prog x6 false (Instr.loadAt 4 x10) w fun x11 w => VG Try.prog x6 false (Op.unary UnOp.not x11) w fun x12 w => PK Try.prog x6 (Value.bool true) x12 w fun x13 w => MG Try.prog x13 false a1 w fun x15 w => CG Try.prog x13 false (Value.func (Fn.func 41) #[] #[]) [x15, (Value.int .i64 0), (Value.int .i64 63)] w fun x16 w => VG Try.prog x13 false (Op.unary UnOp.not x16) w fun x17 w => PK Try.prog x13 (Value.bool true) x17 w fun x18 w => CondK x18 (R (Value.slice none 0 0) w) (NK Try.prog a0 w fun x21 w => VK Try.prog (Instr.fieldAt 61 x21 1) w fun x22 w => VK Try.prog (Instr.indexAt 59 x22 a1) w fun x23 w => VK Try.prog (Instr.loadAt 41 x23) w fun x24 w => R x24 w)
theorem posted_Posted_of_eq (a0 a1 : Value) (w : World) (R : Value → World → Prop) : sx fn_ Try.prog 25 posted_Posted_of_b (retK Try.prog Try.f40.results.toList R) (rho0 [a0, a1]) w = posted_Posted_of_F a0 a1 w R := by kernel_rfl
theorem posted_Posted_of_calls {a0 a1 : Value} {w : World} {R : Value → World → Prop} (h : posted_Posted_of_F a0 a1 w R) : Calls Try.prog 40 #[a0, a1] w fun e w' => ∃ v, e = .returned v ∧ R v w' :=
  Go.X.calls_of_sx (n := 25) (c := posted_Posted_of_b) Try.func40 (by kernel_rfl) (by kernel_rfl) (Nat.le_of_ble_eq_true rfl) (by kernel_rfl) (Eq.mpr (posted_Posted_of_eq a0 a1 w R) h)
noncomputable def posted_in_b : Code := (Try.f41.body).getD .skip
noncomputable def posted_in_F (a0 a1 a2 : Value) (w : World) (R : Value → World → Prop) : Prop :=
  BK Try.prog .geq 3 (.tmp 7) (.tmp 8) a0 a1 w fun x9 w => MG Try.prog x9 true a0 w fun x11 w => MG Try.prog x9 true a2 w fun x12 w => BG Try.prog x9 true .leq 3 (.tmp 11) (.tmp 12) x11 x12 w fun x13 w => PK Try.prog x9 x13 (Value.bool false) w fun x14 w => R x14 w
theorem posted_in_eq (a0 a1 a2 : Value) (w : World) (R : Value → World → Prop) : sx fn_ Try.prog 15 posted_in_b (retK Try.prog Try.f41.results.toList R) (rho0 [a0, a1, a2]) w = posted_in_F a0 a1 a2 w R := by kernel_rfl
theorem posted_in_calls {a0 a1 a2 : Value} {w : World} {R : Value → World → Prop} (h : posted_in_F a0 a1 a2 w R) : Calls Try.prog 41 #[a0, a1, a2] w fun e w' => ∃ v, e = .returned v ∧ R v w' :=
  Go.X.calls_of_sx (n := 15) (c := posted_in_b) Try.func41 (by kernel_rfl) (by kernel_rfl) (Nat.le_of_ble_eq_true rfl) (by kernel_rfl) (Eq.mpr (posted_in_eq a0 a1 a2 w R) h)
noncomputable def posted_Posted_place_b : Code := (Try.f42.body).getD .skip
noncomputable def posted_Posted_place_F (a0 a1 a2 : Value) (w : World) (R : Value → World → Prop) : Prop :=
  VK Try.prog (Instr.box 3 a2) w fun x5 w => CK Try.prog (Value.func (Fn.func 40) #[] #[]) [a0, a1] w fun x9 w => VK Try.prog (Instr.makeFunc (Fn.func 67) [].toArray [x5].toArray) w fun x10 w => CK Try.prog (Value.func (Fn.func 66) #[] #[]) [x9, x10] w fun x11 w => R x11 w
theorem posted_Posted_place_eq (a0 a1 a2 : Value) (w : World) (R : Value → World → Prop) : sx fn_ Try.prog 12 posted_Posted_place_b (retK Try.prog Try.f42.results.toList R) (rho0 [a0, a1, a2]) w = posted_Posted_place_F a0 a1 a2 w R := by kernel_rfl
theorem posted_Posted_place_calls {a0 a1 a2 : Value} {w : World} {R : Value → World → Prop} (h : posted_Posted_place_F a0 a1 a2 w R) : Calls Try.prog 42 #[a0, a1, a2] w fun e w' => ∃ v, e = .returned v ∧ R v w' :=
  Go.X.calls_of_sx (n := 12) (c := posted_Posted_place_b) Try.func42 (by kernel_rfl) (by kernel_rfl) (Nat.le_of_ble_eq_true rfl) (by kernel_rfl) (Eq.mpr (posted_Posted_place_eq a0 a1 a2 w R) h)
noncomputable def posted_kept_posted_Receive_b : Code := (Try.f46.body).getD .skip
noncomputable def posted_kept_posted_Receive_L0 : Code := cAt [1, 1, 0, 1, 0, 0] posted_kept_posted_Receive_b
noncomputable def posted_kept_posted_Receive_R1 : Code := cAt [1, 1, 1] posted_kept_posted_Receive_b
noncomputable def posted_kept_posted_Receive_R2 : Code := cAt [1, 1, 0, 1, 0, 0, 1, 1, 1] posted_kept_posted_Receive_b
noncomputable def posted_kept_posted_Receive_L0_F (z : At) (K : Exit → Sl → World → Prop) (ρ : Sl) (w : World) : Prop :=
  BK Try.prog .lss 3 (.tmp 10) (.tmp 9) (ρ 10) (ρ 9) w fun x11 w => CondK x11 (VK Try.prog (Instr.indexAt 41 (ρ 8) (ρ 10)) w fun x12 w => VK Try.prog (Instr.loadAt 24 x12) w fun x13 w => VK Try.prog (Instr.alloc 24 true (.tuple #[])) w fun x7 w => UK Try.prog (Instr.storeAt 24 x7 x13) w fun _ w => VK Try.prog (Instr.loadAt 24 x7) w fun x15 w => CK Try.prog (ρ 1) [x15] w fun x16 w => CondK x16 (VK Try.prog (Instr.loadAt 24 x7) w fun x18 w => VK Try.prog (Instr.buildSlice 41 1 [(0, x18)].toArray) w fun x19 w => IK Try.prog .append #[41, 41] 41 [false, false] [(ρ 5), x19] w fun x20 w => sx z Try.prog 23 posted_kept_posted_Receive_R2 K (up (up (up (up (up (up (up (up (up (up (up (up ρ 11 x11) 12 x12) 13 x13) 7 x7) 14 (ρ 1)) 15 x15) 16 x16) 17 (ρ 5)) 18 x18) 19 x19) 20 x20) 5 x20) w) (sx z Try.prog 23 posted_kept_posted_Receive_R2 K (up (up (up (up (up (up (up ρ 11 x11) 12 x12) 13 x13) 7 x7) 14 (ρ 1)) 15 x15) 16 x16) w)) (K (.exit 0) (up ρ 11 x11) w)
theorem posted_kept_posted_Receive_L0_eq (z : At) (K : Exit → Sl → World → Prop) (ρ : Sl) (w : World) : sx z Try.prog 23 posted_kept_posted_Receive_L0 K ρ w = posted_kept_posted_Receive_L0_F z K ρ w := by kernel_rfl
theorem posted_kept_posted_Receive_L0_ok : dstOk 23 posted_kept_posted_Receive_L0 = true := by kernel_rfl
noncomputable def posted_kept_posted_Receive_R1_F (z : At) (K : Exit → Sl → World → Prop) (ρ : Sl) (w : World) : Prop :=
  K .ret (up (up ρ 22 (ρ 5)) 4 (ρ 5)) w
theorem posted_kept_posted_Receive_R1_eq (z : At) (K : Exit → Sl → World → Prop) (ρ : Sl) (w : World) : sx z Try.prog 23 posted_kept_posted_Receive_R1 K ρ w = posted_kept_posted_Receive_R1_F z K ρ w := by kernel_rfl
noncomputable def posted_kept_posted_Receive_R2_F (z : At) (K : Exit → Sl → World → Prop) (ρ : Sl) (w : World) : Prop :=
  BK Try.prog .add 3 (.tmp 10) (.const (Value.int .i64 1)) (ρ 10) (Value.int .i64 1) w fun x21 w => K .normal (up (up ρ 21 x21) 10 x21) w
theorem posted_kept_posted_Receive_R2_eq (z : At) (K : Exit → Sl → World → Prop) (ρ : Sl) (w : World) : sx z Try.prog 23 posted_kept_posted_Receive_R2 K ρ w = posted_kept_posted_Receive_R2_F z K ρ w := by kernel_rfl
noncomputable def posted_kept_posted_Receive_F (a0 a1 : Value) (w : World) (R : Value → World → Prop) : Prop :=
  IK Try.prog .len #[41] 3 [false] [a0] w fun x9 w => W fn_ Try.prog 23 (Code.loop posted_kept_posted_Receive_L0) (blkK 0 (seqK (sx fn_ Try.prog 23 posted_kept_posted_Receive_R1 (retK Try.prog [ResultVar.tmp 4] R)) (retK Try.prog [ResultVar.tmp 4] R))) (up (up (up (up (up (rho0 [a0, a1]) 4 (Value.slice none 0 0)) 5 (Value.slice none 0 0)) 8 a0) 9 x9) 10 (Value.int .i64 0)) w
theorem posted_kept_posted_Receive_eq (a0 a1 : Value) (w : World) (R : Value → World → Prop) : sx fn_ Try.prog 23 posted_kept_posted_Receive_b (retK Try.prog Try.f46.results.toList R) (rho0 [a0, a1]) w = posted_kept_posted_Receive_F a0 a1 w R := by kernel_rfl
theorem posted_kept_posted_Receive_calls {a0 a1 : Value} {w : World} {R : Value → World → Prop} (h : posted_kept_posted_Receive_F a0 a1 w R) : Calls Try.prog 46 #[a0, a1] w fun e w' => ∃ v, e = .returned v ∧ R v w' :=
  Go.X.calls_of_sx (n := 23) (c := posted_kept_posted_Receive_b) Try.func46 (by kernel_rfl) (by kernel_rfl) (Nat.le_of_ble_eq_true rfl) (by kernel_rfl) (Eq.mpr (posted_kept_posted_Receive_eq a0 a1 w R) h)
noncomputable def posted_Receive_waits_b : Code := (Try.f47.body).getD .skip
noncomputable def posted_Receive_waits_F (a0 : Value) (w : World) (R : Value → World → Prop) : Prop :=
  VK Try.prog (Instr.box 24 a0) w fun x1 w => VK Try.prog (Instr.fieldAt 24 x1 6) w fun x3 w => VK Try.prog (Instr.loadAt 4 x3) w fun x4 w => VK Try.prog (Op.unary UnOp.not x4) w fun x5 w => R x5 w
theorem posted_Receive_waits_eq (a0 : Value) (w : World) (R : Value → World → Prop) : sx fn_ Try.prog 6 posted_Receive_waits_b (retK Try.prog Try.f47.results.toList R) (rho0 [a0]) w = posted_Receive_waits_F a0 w R := by kernel_rfl
theorem posted_Receive_waits_calls {a0 : Value} {w : World} {R : Value → World → Prop} (h : posted_Receive_waits_F a0 w R) : Calls Try.prog 47 #[a0] w fun e w' => ∃ v, e = .returned v ∧ R v w' :=
  Go.X.calls_of_sx (n := 6) (c := posted_Receive_waits_b) Try.func47 (by kernel_rfl) (by kernel_rfl) (Nat.le_of_ble_eq_true rfl) (by kernel_rfl) (Eq.mpr (posted_Receive_waits_eq a0 w R) h)
noncomputable def slices_IndexFunc_posted_Receive_posted_Receive_b : Code := (Try.f66.body).getD .skip
noncomputable def slices_IndexFunc_posted_Receive_posted_Receive_L0 : Code := cAt [1, 0, 1, 0, 0] slices_IndexFunc_posted_Receive_posted_Receive_b
noncomputable def slices_IndexFunc_posted_Receive_posted_Receive_R1 : Code := cAt [1, 1] slices_IndexFunc_posted_Receive_posted_Receive_b
noncomputable def slices_IndexFunc_posted_Receive_posted_Receive_L0_F (z : At) (K : Exit → Sl → World → Prop) (ρ : Sl) (w : World) : Prop :=
  BK Try.prog .lss 3 (.tmp 8) (.tmp 7) (ρ 8) (ρ 7) w fun x9 w => CondK x9 (VK Try.prog (Instr.indexAt 41 (ρ 0) (ρ 8)) w fun x14 w => VK Try.prog (Instr.loadAt 24 x14) w fun x15 w => CK Try.prog (ρ 1) [x15] w fun x16 w => CondK x16 (K .ret (up (up (up (up (up (up (up (up (up (up (up ρ 9 x9) 10 (ρ 8)) 5 (ρ 8)) 11 (ρ 1)) 12 (ρ 0)) 13 (ρ 8)) 14 x14) 15 x15) 16 x16) 17 (ρ 8)) 4 (ρ 8)) w) (BK Try.prog .add 3 (.tmp 8) (.const (Value.int .i64 1)) (ρ 8) (Value.int .i64 1) w fun x18 w => K .normal (up (up (up (up (up (up (up (up (up (up (up ρ 9 x9) 10 (ρ 8)) 5 (ρ 8)) 11 (ρ 1)) 12 (ρ 0)) 13 (ρ 8)) 14 x14) 15 x15) 16 x16) 18 x18) 8 x18) w)) (K (.exit 0) (up ρ 9 x9) w)
theorem slices_IndexFunc_posted_Receive_posted_Receive_L0_eq (z : At) (K : Exit → Sl → World → Prop) (ρ : Sl) (w : World) : sx z Try.prog 19 slices_IndexFunc_posted_Receive_posted_Receive_L0 K ρ w = slices_IndexFunc_posted_Receive_posted_Receive_L0_F z K ρ w := by kernel_rfl
theorem slices_IndexFunc_posted_Receive_posted_Receive_L0_ok : dstOk 19 slices_IndexFunc_posted_Receive_posted_Receive_L0 = true := by kernel_rfl
noncomputable def slices_IndexFunc_posted_Receive_posted_Receive_R1_F (z : At) (K : Exit → Sl → World → Prop) (ρ : Sl) (w : World) : Prop :=
  K .ret (up ρ 4 (Value.int .i64 (-1))) w
theorem slices_IndexFunc_posted_Receive_posted_Receive_R1_eq (z : At) (K : Exit → Sl → World → Prop) (ρ : Sl) (w : World) : sx z Try.prog 19 slices_IndexFunc_posted_Receive_posted_Receive_R1 K ρ w = slices_IndexFunc_posted_Receive_posted_Receive_R1_F z K ρ w := by kernel_rfl
noncomputable def slices_IndexFunc_posted_Receive_posted_Receive_F (a0 a1 : Value) (w : World) (R : Value → World → Prop) : Prop :=
  IK Try.prog .len #[41] 3 [false] [a0] w fun x7 w => W fn_ Try.prog 19 (Code.loop slices_IndexFunc_posted_Receive_posted_Receive_L0) (blkK 0 (seqK (sx fn_ Try.prog 19 slices_IndexFunc_posted_Receive_posted_Receive_R1 (retK Try.prog [ResultVar.tmp 4] R)) (retK Try.prog [ResultVar.tmp 4] R))) (up (up (up (up (rho0 [a0, a1]) 4 (Value.int .i64 0)) 6 a0) 7 x7) 8 (Value.int .i64 0)) w
theorem slices_IndexFunc_posted_Receive_posted_Receive_eq (a0 a1 : Value) (w : World) (R : Value → World → Prop) : sx fn_ Try.prog 19 slices_IndexFunc_posted_Receive_posted_Receive_b (retK Try.prog Try.f66.results.toList R) (rho0 [a0, a1]) w = slices_IndexFunc_posted_Receive_posted_Receive_F a0 a1 w R := by kernel_rfl
theorem slices_IndexFunc_posted_Receive_posted_Receive_calls {a0 a1 : Value} {w : World} {R : Value → World → Prop} (h : slices_IndexFunc_posted_Receive_posted_Receive_F a0 a1 w R) : Calls Try.prog 66 #[a0, a1] w fun e w' => ∃ v, e = .returned v ∧ R v w' :=
  Go.X.calls_of_sx (n := 19) (c := slices_IndexFunc_posted_Receive_posted_Receive_b) Try.func66 (by kernel_rfl) (by kernel_rfl) (Nat.le_of_ble_eq_true rfl) (by kernel_rfl) (Eq.mpr (slices_IndexFunc_posted_Receive_posted_Receive_eq a0 a1 w R) h)
noncomputable def posted_Posted_place_1_b : Code := (Try.f67.body).getD .skip
noncomputable def posted_Posted_place_1_F (a0 a1 : Value) (w : World) (R : Value → World → Prop) : Prop :=
  VK Try.prog (Instr.box 24 a0) w fun x2 w => VK Try.prog (Instr.fieldAt 24 x2 2) w fun x4 w => VK Try.prog (Instr.loadAt 3 x4) w fun x5 w => VK Try.prog (Instr.loadAt 3 a1) w fun x6 w => BK Try.prog .eql 3 (.tmp 5) (.tmp 6) x5 x6 w fun x7 w => R x7 w
theorem posted_Posted_place_1_eq (a0 a1 : Value) (w : World) (R : Value → World → Prop) : sx fn_ Try.prog 8 posted_Posted_place_1_b (retK Try.prog Try.f67.results.toList R) (rho0 [a0, a1]) w = posted_Posted_place_1_F a0 a1 w R := by kernel_rfl
theorem posted_Posted_place_1_calls {a0 a1 : Value} {w : World} {R : Value → World → Prop} (h : posted_Posted_place_1_F a0 a1 w R) : Calls Try.prog 67 #[a0, a1] w fun e w' => ∃ v, e = .returned v ∧ R v w' :=
  Go.X.calls_of_sx (n := 8) (c := posted_Posted_place_1_b) Try.func67 (by kernel_rfl) (by kernel_rfl) (Nat.le_of_ble_eq_true rfl) (by kernel_rfl) (Eq.mpr (posted_Posted_place_1_eq a0 a1 w R) h)
end Go.Proofs.Ytmnkedgmpbcicaa.XG
set_option linter.unusedVariables false
set_option linter.unusedSimpArgs false
set_option maxRecDepth 8000
namespace Go.X
open Go Go.RowKit
structure Rc where
  key : List UInt8
  rank : Int
  call : Int
  peer : Int
  tag : Int
  req : Int
  done : Bool
  frm : Int
  seq : Int
deriving DecidableEq
def Rc.enc (r : Rc) : List Value := [strV r.key, .int .i64 r.rank, .int .i64 r.call, .int .i64 r.peer, .int .i64 r.tag, .int .i64 r.req, .bool r.done, .int .i64 r.frm, .int .i64 r.seq]
def zRc : Rc := ⟨[], 0, 0, 0, 0, 0, false, 0, 0⟩
theorem Rc.enc_len (m : Rc) : m.enc.length = 8 + 1 := rfl
theorem Rc.enc_one (m : Rc) : m.enc.toArray.all (·.oneCell') = true := by simp [Rc.enc, Value.oneCell', strV]
theorem Rc.enc_mem (l : List Rc) : ∀ u ∈ l.flatMap Rc.enc, u.oneCell' = true := by
  intro u hu
  obtain ⟨m, _, hm⟩ := List.mem_flatMap.1 hu
  have := Rc.enc_one m
  rw [Array.all_eq_true'] at this
  exact this u (by simpa using hm)
def wt (r : Rc) : Bool := !r.done
def idxR (p : Rc → Bool) (l : List Rc) : Int := match l.findIdx? p with | some j => j | none => -1
end Go.X
namespace Go.Proofs.Ytmnkedgmpbcicaa.Que
open Go Go.X Go.RowKit Go.Proofs.Ytmnkedgmpbcicaa.XF Go.Proofs.Ytmnkedgmpbcicaa.XG Go.Proofs.Ytmnkedgmpbcicaa.XK
abbrev tRc : TypeId := 24
abbrev tRcS : TypeId := 41
theorem vRcS : Try.prog.underlying tRcS = some (.slice tRc) := by kernel_rfl
theorem cRc : Try.prog.cellsOf tRc = 8 + 1 := by kernel_rfl
theorem iRc : (Try.prog.info? tRc).map (·.size) = some 9 := by kernel_rfl
theorem eRcS : elemOk Try.prog tRcS tRc 9 80 = true := by kernel_rfl
theorem zRc_z : (Try.prog.info? tRc).bind (·.zero) = some (.agg zRc.enc.toArray) := by kernel_rfl
def RcRow (w : World) (s : Value) (l : List Rc) : Prop := reads w (8 + 1) s l.length (l.flatMap Rc.enc)
theorem RcRow.mod {S : Nat → Prop} {w w' : World} {s : Value} {l : List Rc} (h : RcRow w s l) (hm : Mod S w w') (hS : ∀ k, sb s k → ¬ S k) : RcRow w' s l := reads_mod h hm fun k _ q => hS k q
theorem RcRow.calm {w w' : World} {s : Value} {l : List Rc} (h : RcRow w s l) (hm : Mod none_ w w') : RcRow w' s l := h.mod hm fun _ _ => id
theorem RcRow.nil (w : World) : RcRow w (.slice none 0 0) [] := reads_nil _ _
theorem ixRc {w : World} {s : Value} {l : List Rc} {i : Nat} {n : Int} {e : Rc} {K : Value → Value → World → Prop} (h : RcRow w s l) (hi : l[i]? = some e) (hn : n = (i : Int)) (hk : ∀ x, K x (.agg e.enc.toArray) w) :
    VK Try.prog (Instr.indexAt tRcS s (.int .i64 n)) w fun x w => VK Try.prog (Instr.loadAt tRc x) w (K x) := by
  subst hn
  have hlt : i < l.length := (List.getElem?_eq_some_iff.1 hi).1
  refine ixldA vRcS cRc Try.underlying24 rfl h (by omega) (by omega) fun x => ?_
  rw [show ((i : Int).toNat) = i by omega, fl_drop (k := 8 + 1) Rc.enc_len hi]
  exact hk x
theorem ixRcA {w : World} {s : Value} {l : List Rc} {i : Nat} {n : Int} {e : Rc} {K : Value → World → Prop} (h : RcRow w s l) (hi : l[i]? = some e) (hn : n = (i : Int)) (hk : ∀ a, (∀ j u, e.enc[j]? = some u → w.cell? (a.add j) = some u) → K (.pointer (some a)) w) :
    VK Try.prog (Instr.indexAt tRcS s (.int .i64 n)) w K := by
  subst hn
  have hlt : i < l.length := (List.getElem?_eq_some_iff.1 hi).1
  refine ixat vRcS cRc h (by omega) (by omega) fun a ha _ => hk a fun j u hu => ?_
  have hj : j < 8 + 1 := (List.getElem?_eq_some_iff.1 hu).1
  refine ha j u hj ?_
  rw [show ((i : Int).toNat) = i by omega, fl_get (k := 8 + 1) Rc.enc_len hi hj]
  exact hu
theorem appR {w : World} {v : Value} {xs : List Rc} {m : Rc} {B : Nat} {K : Value → Value → World → Prop} (ho : w.ownsRow B tRc 9 v xs.length (xs.flatMap Rc.enc)) (hB : B ≤ w.heap.size) (hl : xs.length ≤ 2000000)
    (hk : ∀ x v' w', w'.ownsRow B tRc 9 v' (xs ++ [m]).length ((xs ++ [m]).flatMap Rc.enc) → Mod (fun b => B ≤ b) w w' → K x v' w') :
    VK Try.prog (Instr.buildSlice tRcS 1 [(0, .agg m.enc.toArray)].toArray) w fun x w => IK Try.prog .append #[tRcS, tRcS] tRcS [false, false] [v, x] w (K x) := by
  refine bs_k (cs := m.enc.toArray) (by kernel_rfl) fun w1 hb1 hm1 hz1 => ?_
  refine ap_any eRcS (owns_mod ho hm1 fun _ _ => id) (reads_blk (size := 9) (n := 1) hb1 rfl) (fun u hu => Rc.enc_mem [m] u (by simpa using hu)) (by unfold maxLen; omega) (by omega) (by omega) fun v' w2 ho2 hm2 hv2 => ?_
  refine hk _ v' w2 ?_ ((hm1.mono fun _ _ z => z.elim).trans (hm2.mono fun b _ z => (owns_bd (owns_mod ho hm1 fun _ _ => id) b z.symm).1))
  rw [List.length_append, List.flatMap_append]
  simpa using ho2
abbrev RowR (w0 : World) (xs : List Rc) : Value → World → Prop := fun v w' => w'.ownsRow w0.heap.size tRc 9 v xs.length (xs.flatMap Rc.enc) ∧ Mod none_ w0 w'
theorem rcSlot_k {K : Value → World → Prop} {w : World} {m : Rc} (hk : ∀ w', w'.heap[w.heap.size]? = some (.cells m.enc.toArray tRc (0, 0)) → Mod none_ w w' → w'.heap.size = w.heap.size + 1 → K (.pointer (some ⟨w.heap.size, 0, none⟩)) w') : VK Try.prog (Instr.alloc tRc true (.tuple #[])) w fun x w => UK Try.prog (Instr.storeAt tRc x (.agg m.enc.toArray)) w fun _ w => K x w := by
  refine al_k (cs := zRc.enc.toArray) zRc_z rfl _ fun w1 hb1 hm1 hz1 => ?_
  refine stS (cs := m.enc.toArray) (old := zRc.enc.toArray) rfl rfl (by rw [iRc]; rfl) rfl (Rc.enc_one _) hb1 fun w2 hb2 hm2 hz2 => ?_
  exact hk w2 hb2 (hm1.fresh hm2 (Nat.le_refl _)) (by omega)
theorem waits_ok (w : World) (r : Rc) : Rt Try.prog 47 #[.agg r.enc.toArray] w fun v w' => v = .bool (wt r) ∧ Mod none_ w w' := by
  refine posted_Receive_waits_calls ?_
  unfold posted_Receive_waits_F
  refine box_k (cs := r.enc.toArray) rfl fun w1 hb1 hm1 hz1 => ?_
  have g : FO Try.prog w1 tRc 6 6 ⟨w.heap.size, 0, none⟩ 4 (.bool r.done) := FO.blk hb1 (by kernel_rfl) vB rfl rfl
  rw [g.e, not_ok]
  exact ⟨rfl, hm1⟩
end Go.Proofs.Ytmnkedgmpbcicaa.Que
set_option linter.unusedVariables false
set_option linter.unusedSimpArgs false
set_option maxRecDepth 8000
namespace Go.Proofs.Ytmnkedgmpbcicaa.Que
open Go Go.X Go.RowKit Go.Proofs.Ytmnkedgmpbcicaa.XF Go.Proofs.Ytmnkedgmpbcicaa.XG Go.Proofs.Ytmnkedgmpbcicaa.XK
theorem kept_R2 {w : World} {K : Exit → Sl → World → Prop} {ρ : Sl} {n : Nat} (hn : n ≤ 1000000) (e10 : ρ 10 = .int .i64 n) (hk : ∀ ρ' : Sl, ρ' 10 = .int .i64 (n + 1 : Nat) → ρ' 9 = ρ 9 → ρ' 8 = ρ 8 → ρ' 1 = ρ 1 → ρ' 5 = ρ 5 → K .normal ρ' w) : sx fn_ Try.prog 23 posted_kept_posted_Receive_R2 K ρ w := by
  rw [posted_kept_posted_Receive_R2_eq]; unfold posted_kept_posted_Receive_R2_F
  rw [e10, BK_add, wrap_i (by omega) (by omega)]
  exact hk _ rfl rfl rfl rfl rfl
theorem kept_ok {w : World} {v : Value} {l : List Rc} (h : RcRow w v l) (hl : l.length ≤ 1000000) : Rt Try.prog 46 #[v, .func (.func 47) #[] #[]] w (RowR w (l.filter wt)) := by
  obtain ⟨A, c, hs, _⟩ := reads_cap h
  refine posted_kept_posted_Receive_calls ?_
  unfold posted_kept_posted_Receive_F
  rw [hs, len_sl vRcS, ← hs]
  refine W_loop posted_kept_posted_Receive_L0_ok (fun ρ w' => ∃ (n : Nat) (o : Value), n ≤ l.length ∧ ρ 10 = .int .i64 n ∧ ρ 9 = .int .i64 l.length ∧ ρ 8 = v ∧ ρ 1 = .func (.func 47) #[] #[] ∧ ρ 5 = o ∧ w'.ownsRow w.heap.size tRc 9 o ((l.take n).filter wt).length (((l.take n).filter wt).flatMap Rc.enc) ∧ Mod none_ w w') (fun ρ _ => l.length - (intOf (ρ 10)).toNat)
    ⟨0, .slice none 0 0, Nat.zero_le _, rfl, rfl, rfl, rfl, rfl, World.ownsRow_nil _ _ _ _, Mod.refl _ _⟩ ?_
  rintro ρ w1 ⟨n, o, hn, e10, e9, e8, e1, e5, hO, hm⟩
  rw [posted_kept_posted_Receive_L0_eq]; unfold posted_kept_posted_Receive_L0_F
  rw [e10, e9, e8, e1, e5, BK_lss]
  have hsz := hm.size
  by_cases hlt : n < l.length
  · rw [decide_eq_true (by omega)]
    refine condT ?_
    have hx : l[n]? = some l[n] := List.getElem?_eq_getElem hlt
    have etk : l.take (n + 1) = l.take n ++ [l[n]] := by rw [List.take_add_one, hx]; rfl
    generalize l[n] = x at *
    have hlen : ((l.take n).filter wt).length ≤ n := Nat.le_trans (List.length_filter_le _ _) (by rw [List.length_take]; omega)
    refine ixRc (h.calm hm) hx rfl fun y => ?_
    refine rcSlot_k fun w2 hb2 hm2 hz2 => ?_
    refine ldS rfl Try.underlying24 rfl (by rw [iRc]; rfl) hb2 ?_
    refine CK_st Try.func47 rfl rfl (waits_ok w2 x) ?_
    rintro _ w3 ⟨rfl, hm3⟩
    have hm13 := hm2.trans hm3
    refine caseC (fun q => ?_) (fun q => ?_)
    · refine ldS rfl Try.underlying24 rfl (by rw [iRc]; rfl) (hm3.blk hb2 id) ?_
      refine appR (owns_mod hO hm13 fun _ _ => id) (by have := hm13.size; omega) (by omega) fun _ o' w4 hO4 hm4 => ?_
      have ef : (l.take (n + 1)).filter wt = (l.take n).filter wt ++ [x] := by rw [etk, List.filter_append, List.filter_cons_of_pos q, List.filter_nil]
      rw [← ef] at hO4
      refine kept_R2 (by omega) (by first | exact e10 | rfl) fun ρ2 q10 q9 q8 q1 q5 => ⟨⟨n + 1, o', hlt, q10, q9.trans (by first | exact e9 | rfl), q8.trans (by first | exact e8 | rfl), q1.trans (by first | exact e1 | rfl), q5, hO4, (hm.trans hm13).then hm4 fun i hi z => by omega⟩, ?_⟩
      rw [q10]
      simp only [intOf]; omega
    · have ef : (l.take (n + 1)).filter wt = (l.take n).filter wt := by rw [etk, List.filter_append, List.filter_cons_of_neg (by rw [q]; decide), List.filter_nil, List.append_nil]
      rw [← ef] at hO
      refine kept_R2 (by omega) (by first | exact e10 | rfl) fun ρ2 q10 q9 q8 q1 q5 => ⟨⟨n + 1, o, hlt, q10, q9.trans (by first | exact e9 | rfl), q8.trans (by first | exact e8 | rfl), q1.trans (by first | exact e1 | rfl), q5.trans (by first | exact e5 | rfl), owns_mod hO hm13 fun _ _ => id, hm.trans hm13⟩, ?_⟩
      rw [q10]
      simp only [intOf]; omega
  · obtain rfl : n = l.length := by omega
    rw [decide_eq_false (by omega)]
    refine condF ?_
    rw [sq_x, bk_x, sq_n, posted_kept_posted_Receive_R1_eq]; unfold posted_kept_posted_Receive_R1_F
    rw [List.take_length] at hO
    have key : ∀ ρ0 : Sl, ρ0 5 = o → retK Try.prog [ResultVar.tmp 4] (RowR w (l.filter wt)) .ret (up (up ρ0 22 (ρ0 5)) 4 (ρ0 5)) w1 := by
      intro ρ0 q
      show RowR w (l.filter wt) (ρ0 5) w1
      rw [q]
      exact ⟨hO, hm⟩
    exact key _ (by first | exact e5 | rfl)
theorem IndexFuncRc_ok {w : World} {s : Value} {l : List Rc} {p : Rc → Bool} {fv : Value} (h : RcRow w s l) (hlen : l.length ≤ 1099511627776)
    (hf : ∀ a ∈ l, ∀ w', Mod none_ w w' → ∀ K : Value → World → Prop, (∀ w'', Mod none_ w' w'' → K (.bool (p a)) w'') → CK Try.prog fv [.agg a.enc.toArray] w' K) :
    Rt Try.prog 66 #[s, fv] w fun v w' => v = .int .i64 (idxR p l) ∧ Mod none_ w w' := by
  obtain ⟨A, c, hs, _⟩ := reads_cap h
  refine slices_IndexFunc_posted_Receive_posted_Receive_calls ?_
  unfold slices_IndexFunc_posted_Receive_posted_Receive_F
  rw [hs, len_sl vRcS]
  refine W_loop slices_IndexFunc_posted_Receive_posted_Receive_L0_ok (fun ρ w' => ∃ n : Nat, n ≤ l.length ∧ ρ 8 = .int .i64 n ∧ ρ 7 = .int .i64 l.length ∧ ρ 0 = .slice A l.length c ∧ ρ 1 = fv ∧ (∀ a ∈ l.take n, p a = false) ∧ Mod none_ w w') (fun ρ _ => l.length - (intOf (ρ 8)).toNat)
    ⟨0, Nat.zero_le _, rfl, rfl, rfl, rfl, by simp, Mod.refl _ _⟩ ?_
  rintro ρ w1 ⟨n, hn, h8, h7, h0, h1, hno, hm⟩
  rw [slices_IndexFunc_posted_Receive_posted_Receive_L0_eq]
  unfold slices_IndexFunc_posted_Receive_posted_Receive_L0_F
  rw [h8, h7, h0, h1, BK_lss]
  by_cases hlt : n < l.length
  · rw [decide_eq_true (by omega)]
    refine condT ?_
    have hx : l[n]? = some l[n] := List.getElem?_eq_getElem hlt
    have hmem : l[n] ∈ l := List.getElem_mem hlt
    have h2 := h.calm hm
    rw [hs] at h2
    refine ixRc h2 hx rfl fun y => ?_
    refine hf _ hmem w1 hm _ fun w2 hm2 => ?_
    refine caseC (fun hp => ?_) (fun hp => ?_)
    · refine ⟨?_, hm.trans hm2⟩
      unfold idxR
      rw [show l.findIdx? p = some n from List.findIdx?_eq_some_iff_getElem.2 ⟨hlt, hp, fun j hj => by
        have := hno l[j] (List.mem_take_iff_getElem.2 ⟨j, by omega, rfl⟩)
        simp [this]⟩]
      rfl
    · rw [BK_add, wrap_i (by omega) (by omega)]
      refine ⟨⟨n + 1, hlt, rfl, h7, h0, h1, ?_, hm.trans hm2⟩, ?_⟩
      · rw [List.take_add_one, hx, Option.toList_some]
        intro a q
        rcases List.mem_append.1 q with q | q
        · exact hno a q
        · rw [List.mem_singleton.1 q]; exact hp
      · simp only [sq_n, sq_x, sq_r, bk_n, bk_r, bk_x, rt_r, rt_n, rs_0, rs_t, pk_1, pk_2, up_at, reduceIte, Nat.reduceEqDiff, intOf]; omega
  · obtain rfl : n = l.length := by omega
    rw [decide_eq_false (by omega)]
    refine condF ?_
    rw [sq_x, bk_x, sq_n, slices_IndexFunc_posted_Receive_posted_Receive_R1_eq]
    unfold slices_IndexFunc_posted_Receive_posted_Receive_R1_F
    refine ⟨?_, hm⟩
    rw [List.take_length] at hno
    unfold idxR
    rw [List.findIdx?_eq_none_iff.2 hno]
    rfl
end Go.Proofs.Ytmnkedgmpbcicaa.Que
set_option linter.unusedVariables false
set_option linter.unusedSimpArgs false
set_option maxRecDepth 8000
namespace Go.X
open Go Go.RowKit
abbrev Rks := Nat → List Rc
def rowP (R : Rks) (rk : Int) : List Rc := if 0 ≤ rk ∧ rk ≤ 63 then R rk.toNat else []
def PF (p : Nat) (vs : List Value) (b : Nat) : Prop := b = p ∨ ∃ v ∈ vs, sb v b
def badR (r : Rc) (l : List Rc) : Bool := !(decide (0 ≤ r.rank) && decide (r.rank ≤ 63)) || !(decide (-1 ≤ r.peer) && decide (r.peer ≤ 63)) || !(decide (-1 ≤ r.tag) && decide (r.tag ≤ 32767)) || decide (r.req < -1) || decide (r.call < 0) || (match l.getLast? with | none => false | some x => decide (r.call ≤ x.call))
def Rc.new (r : Rc) : Rc := { r with done := false, frm := 0, seq := 0 }
def putR (R : Rks) (k : Nat) (l : List Rc) : Rks := fun i => if i = k then l else R i
def postV (R : Rks) (r : Rc) : Rks × Int := if badR r (rowP R r.rank) then (R, 2) else (putR R r.rank.toNat (rowP R r.rank ++ [r.new]), 0)
end Go.X
namespace Go.Proofs.Ytmnkedgmpbcicaa.Que
open Go Go.X Go.RowKit Go.Proofs.Ytmnkedgmpbcicaa.XF Go.Proofs.Ytmnkedgmpbcicaa.XG Go.Proofs.Ytmnkedgmpbcicaa.XK
abbrev tPd : TypeId := 61
abbrev tArr : TypeId := 59
theorem uPd : Try.prog.underlying 28 = some (.pointer tPd) := by kernel_rfl
structure PAt (w : World) (p : Nat) (R : Rks) (vs : List Value) : Prop where
  blk : w.heap[p]? = some (.cells (.bool true :: vs).toArray tPd (0, 0))
  len : vs.length = 64
  rows : ∀ (i : Nat) v, vs[i]? = some v → w.ownsRow 0 tRc 9 v (R i).length ((R i).flatMap Rc.enc)
  ne : ∀ v ∈ vs, ¬ sb v p
  dist : ∀ (i j : Nat) v u, vs[i]? = some v → vs[j]? = some u → i ≠ j → ∀ g, sb v g → ¬ sb u g
structure PFr (p : Nat) (w : World) (vs : List Value) (w' : World) (vs' : List Value) : Prop where
  mod : Mod (PF p vs) w w'
  f : ∀ b, PF p vs' b → PF p vs b ∨ w.heap.size ≤ b
theorem PFr.calm {p : Nat} {w w' : World} {vs : List Value} (h : Mod none_ w w') : PFr p w vs w' vs := ⟨h.mono fun _ _ q => q.elim, fun _ q => .inl q⟩
theorem PFr.trans {p : Nat} {w w1 w2 : World} {V V1 V2 : List Value} (h : PFr p w V w1 V1) (k : PFr p w1 V1 w2 V2) : PFr p w V w2 V2 := by
  have hs := h.mod.size
  refine ⟨h.mod.then k.mod fun i hi q => ?_, fun b q => ?_⟩
  · rcases h.f i q with z | z
    · exact z
    · omega
  · rcases k.f b q with z | z
    · exact h.f b z
    · right; omega
theorem PAt.mod {w w' : World} {p : Nat} {R : Rks} {vs : List Value} {S : Nat → Prop} (h : PAt w p R vs) (hm : Mod S w w') (hS : ∀ b, PF p vs b → ¬ S b) : PAt w' p R vs :=
  ⟨hm.blk h.blk (hS _ (.inl rfl)), h.len, fun i v hv => owns_mod (h.rows i v hv) hm fun k q => hS k (.inr ⟨v, List.mem_of_getElem? hv, q⟩), h.ne, h.dist⟩
theorem PAt.calm {w w' : World} {p : Nat} {R : Rks} {vs : List Value} (h : PAt w p R vs) (hm : Mod none_ w w') : PAt w' p R vs := h.mod hm fun _ _ q => q
theorem PAt.old {w : World} {p : Nat} {R : Rks} {vs : List Value} (h : PAt w p R vs) : ∀ b, PF p vs b → b < w.heap.size := by
  rintro b (rfl | ⟨v, hv, hb⟩)
  · exact X.blk_lt h.blk
  · obtain ⟨i, hi⟩ := List.getElem?_of_mem hv
    exact (owns_bd (h.rows i v hi) b hb).2
section
variable {w : World} {p : Nat} {R : Rks} {vs : List Value}
theorem f_made (h : PAt w p R vs) : FO Try.prog w tPd 0 0 ⟨p, 0, none⟩ 4 (.bool true) := FO.blk h.blk (by kernel_rfl) vB rfl rfl
theorem run_arr {b o : Nat} {k : IntKind} {i : Int} (h0 : 0 ≤ i) (h1 : i ≤ 63) (w : World) : (Instr.indexAt tArr (.pointer (some ⟨b, o, none⟩)) (.int k i)).run Try.prog w = .ok (.pointer (some ⟨b, o + i.toNat, none⟩)) w := by
  rw [run_indexAt_array w tArr _ k i (by kernel_rfl), if_pos ⟨h0, by rw [show Try.prog.arrayLen tArr = 64 by kernel_rfl]; omega⟩, show Try.prog.elem tArr = tRcS by kernel_rfl, Try.sizeOf41]
  simp [add_pl]
theorem ixArr {b o : Nat} {k : IntKind} {i : Int} (h0 : 0 ≤ i) (h1 : i ≤ 63) {K : Value → World → Prop} : VK Try.prog (Instr.indexAt tArr (.pointer (some ⟨b, o, none⟩)) (.int k i)) w K = K (.pointer (some ⟨b, o + i.toNat, none⟩)) w := VK_eq_of (run_arr h0 h1 w)
theorem inP_ok (n a b : Int) (w : World) : Rt Try.prog 41 #[.int .i64 n, .int .i64 a, .int .i64 b] w fun v w' => v = .bool (decide (a ≤ n) && decide (n ≤ b)) ∧ w' = w := by
  refine posted_in_calls ?_
  unfold posted_in_F
  rw [BK_geq]
  cases hz : decide (a ≤ n) with
  | true =>
    try simp only [↓VG_u, ↓UG_u, ↓MG_u, ↓NG_u, ↓PG_u, ↓BG_u, ↓CG_u, ↓IG_u, ↓VGtt, ↓VGtf, ↓VGft, ↓VGff, ↓UGtt, ↓UGtf, ↓UGft, ↓UGff, ↓MGtt, ↓MGtf, ↓MGft, ↓MGff, ↓NGtt, ↓NGtf, ↓NGft, ↓NGff, ↓PGtt, ↓PGtf, ↓PGft, ↓PGff, ↓BGtt, ↓BGtf, ↓BGft, ↓BGff, ↓CGtt, ↓CGtf, ↓CGft, ↓CGff, ↓IGtt, ↓IGtf, ↓IGft, ↓IGff, ↓PKt, ↓PKf, ↓CDt, ↓CDf, ↓NOTt, ↓NOTf, ↓NK_ptr]
    rw [BK_leq]
    try simp only [↓VG_u, ↓UG_u, ↓MG_u, ↓NG_u, ↓PG_u, ↓BG_u, ↓CG_u, ↓IG_u, ↓VGtt, ↓VGtf, ↓VGft, ↓VGff, ↓UGtt, ↓UGtf, ↓UGft, ↓UGff, ↓MGtt, ↓MGtf, ↓MGft, ↓MGff, ↓NGtt, ↓NGtf, ↓NGft, ↓NGff, ↓PGtt, ↓PGtf, ↓PGft, ↓PGff, ↓BGtt, ↓BGtf, ↓BGft, ↓BGff, ↓CGtt, ↓CGtf, ↓CGft, ↓CGff, ↓IGtt, ↓IGtf, ↓IGft, ↓IGff, ↓PKt, ↓PKf, ↓CDt, ↓CDf, ↓NOTt, ↓NOTf, ↓NK_ptr]
    exact ⟨by first | rfl | simp, by trivial⟩
  | false =>
    try simp only [↓VG_u, ↓UG_u, ↓MG_u, ↓NG_u, ↓PG_u, ↓BG_u, ↓CG_u, ↓IG_u, ↓VGtt, ↓VGtf, ↓VGft, ↓VGff, ↓UGtt, ↓UGtf, ↓UGft, ↓UGff, ↓MGtt, ↓MGtf, ↓MGft, ↓MGff, ↓NGtt, ↓NGtf, ↓NGft, ↓NGff, ↓PGtt, ↓PGtf, ↓PGft, ↓PGff, ↓BGtt, ↓BGtf, ↓BGft, ↓BGff, ↓CGtt, ↓CGtf, ↓CGft, ↓CGff, ↓IGtt, ↓IGtf, ↓IGft, ↓IGff, ↓PKt, ↓PKf, ↓CDt, ↓CDf, ↓NOTt, ↓NOTf, ↓NK_ptr]
    exact ⟨by first | trivial | rfl | simp, by trivial⟩
theorem PAt.at (h : PAt w p R vs) {rk : Int} (h0 : 0 ≤ rk) (h1 : rk ≤ 63) : ∃ v, vs[rk.toNat]? = some v ∧ w.cell? ⟨p, 1 + rk.toNat, none⟩ = some v ∧ RcRow w v (rowP R rk) := by
  have hl := h.len
  have hx : vs[rk.toNat]? = some vs[rk.toNat] := List.getElem?_eq_getElem (by omega)
  refine ⟨_, hx, ?_, ?_⟩
  · rw [cell_blk h.blk]
    rw [show (1 + rk.toNat) = rk.toNat + 1 by omega]
    simp
  · unfold rowP
    rw [if_pos ⟨h0, h1⟩]
    exact reads_of_owns (h.rows _ _ hx)
theorem of_ok' (h : PAt w p R vs) (rk : Int) : Rt Try.prog 40 #[.pointer (some ⟨p, 0, none⟩), .int .i64 rk] w fun v w' => w' = w ∧ RcRow w v (rowP R rk) ∧ (0 ≤ rk ∧ rk ≤ 63 → vs[rk.toNat]? = some v) := by
  refine posted_Posted_of_calls ?_
  unfold posted_Posted_of_F
  rw [BK_eqlP uPd]
  simp only [Option.isNone_some, ↓VG_u, ↓UG_u, ↓MG_u, ↓NG_u, ↓PG_u, ↓BG_u, ↓CG_u, ↓IG_u, ↓VGtt, ↓VGtf, ↓VGft, ↓VGff, ↓UGtt, ↓UGtf, ↓UGft, ↓UGff, ↓MGtt, ↓MGtf, ↓MGft, ↓MGff, ↓NGtt, ↓NGtf, ↓NGft, ↓NGff, ↓PGtt, ↓PGtf, ↓PGft, ↓PGff, ↓BGtt, ↓BGtf, ↓BGft, ↓BGff, ↓CGtt, ↓CGtf, ↓CGft, ↓CGff, ↓IGtt, ↓IGtf, ↓IGft, ↓IGff, ↓PKt, ↓PKf, ↓CDt, ↓CDf, ↓NOTt, ↓NOTf, ↓NK_ptr]
  rw [(f_made h).e]
  try simp only [↓VG_u, ↓UG_u, ↓MG_u, ↓NG_u, ↓PG_u, ↓BG_u, ↓CG_u, ↓IG_u, ↓VGtt, ↓VGtf, ↓VGft, ↓VGff, ↓UGtt, ↓UGtf, ↓UGft, ↓UGff, ↓MGtt, ↓MGtf, ↓MGft, ↓MGff, ↓NGtt, ↓NGtf, ↓NGft, ↓NGff, ↓PGtt, ↓PGtf, ↓PGft, ↓PGff, ↓BGtt, ↓BGtf, ↓BGft, ↓BGff, ↓CGtt, ↓CGtf, ↓CGft, ↓CGff, ↓IGtt, ↓IGtf, ↓IGft, ↓IGff, ↓PKt, ↓PKf, ↓CDt, ↓CDf, ↓NOTt, ↓NOTf, ↓NK_ptr]
  refine CK_st Try.func41 rfl rfl (inP_ok rk 0 63 w) ?_
  rintro _ w1 ⟨rfl, rfl⟩
  by_cases hr : 0 ≤ rk ∧ rk ≤ 63
  · rw [decide_eq_true hr.1, decide_eq_true hr.2]
    obtain ⟨v, hv, hc, hrow⟩ := h.at hr.1 hr.2
    try simp only [Bool.true_and, Bool.and_true, ↓VG_u, ↓UG_u, ↓MG_u, ↓NG_u, ↓PG_u, ↓BG_u, ↓CG_u, ↓IG_u, ↓VGtt, ↓VGtf, ↓VGft, ↓VGff, ↓UGtt, ↓UGtf, ↓UGft, ↓UGff, ↓MGtt, ↓MGtf, ↓MGft, ↓MGff, ↓NGtt, ↓NGtf, ↓NGft, ↓NGff, ↓PGtt, ↓PGtf, ↓PGft, ↓PGff, ↓BGtt, ↓BGtf, ↓BGft, ↓BGff, ↓CGtt, ↓CGtf, ↓CGft, ↓CGff, ↓IGtt, ↓IGtf, ↓IGft, ↓IGff, ↓PKt, ↓PKf, ↓CDt, ↓CDf, ↓NOTt, ↓NOTf, ↓NK_ptr]
    rw [fo (show fieldOff Try.prog tPd 1 = some 1 by kernel_rfl), add_pl, ixArr hr.1 hr.2]
    refine ld1 vRcS rfl (by rw [Nat.zero_add]; exact hc) ?_
    exact ⟨rfl, hrow, fun _ => hv⟩
  · rw [show (decide (0 ≤ rk) && decide (rk ≤ 63)) = false by
      rw [Bool.and_eq_false_iff]; simp only [decide_eq_false_iff_not]; omega]
    try simp only [↓VG_u, ↓UG_u, ↓MG_u, ↓NG_u, ↓PG_u, ↓BG_u, ↓CG_u, ↓IG_u, ↓VGtt, ↓VGtf, ↓VGft, ↓VGff, ↓UGtt, ↓UGtf, ↓UGft, ↓UGff, ↓MGtt, ↓MGtf, ↓MGft, ↓MGff, ↓NGtt, ↓NGtf, ↓NGft, ↓NGff, ↓PGtt, ↓PGtf, ↓PGft, ↓PGff, ↓BGtt, ↓BGtf, ↓BGft, ↓BGff, ↓CGtt, ↓CGtf, ↓CGft, ↓CGff, ↓IGtt, ↓IGtf, ↓IGft, ↓IGff, ↓PKt, ↓PKf, ↓CDt, ↓CDf, ↓NOTt, ↓NOTf, ↓NK_ptr]
    refine ⟨by trivial, ?_, fun z => absurd z hr⟩
    unfold rowP
    rw [if_neg hr]
    exact RcRow.nil _
theorem New_ok' (w : World) : Rt Try.prog 24 #[] w fun v w' => ∃ p vs, v = .pointer (some ⟨p, 0, none⟩) ∧ PAt w' p (fun _ => []) vs ∧ (∀ b, PF p vs b → w.heap.size ≤ b) ∧ Mod none_ w w' := by
  refine posted_New_calls ?_
  unfold posted_New_F
  rw [build_ok (cs := (.bool true :: List.replicate 64 (.slice none 0 0)).toArray) (by kernel_rfl)]
  refine box_k (cs := (.bool true :: List.replicate 64 (.slice none 0 0)).toArray) rfl fun w1 hb1 hm1 hz1 => ?_
  have hall : ∀ v ∈ List.replicate 64 (Value.slice none 0 0), v = .slice none 0 0 := fun v hv => (List.mem_replicate.1 hv).2
  refine ⟨_, List.replicate 64 (.slice none 0 0), rfl, ⟨hb1, List.length_replicate .., fun i v hv => ?_, fun v hv z => ?_, fun i j v u hv hu _ g z => ?_⟩, ?_, hm1⟩
  · rw [hall v (List.mem_of_getElem? hv)]
    exact World.ownsRow_nil _ _ _ _
  · rw [hall v hv] at z; cases z
  · rw [hall v (List.mem_of_getElem? hv)] at z; cases z
  · rintro b (rfl | ⟨v, hv, hb⟩)
    · exact Nat.le_refl _
    · rw [hall v hv] at hb; cases hb
end
end Go.Proofs.Ytmnkedgmpbcicaa.Que
set_option linter.unusedVariables false
set_option linter.unusedSimpArgs false
set_option maxRecDepth 8000
namespace Go.Proofs.Ytmnkedgmpbcicaa.Que
open Go Go.X Go.RowKit Go.Proofs.Ytmnkedgmpbcicaa.XF Go.Proofs.Ytmnkedgmpbcicaa.XG Go.Proofs.Ytmnkedgmpbcicaa.XK
theorem up_lo {ρ : Sl} {d : Nat} {v : Value} {k n : Nat} (hk : k < n) (hd : n ≤ d) : up ρ d v k = ρ k := by rw [up_at, if_neg (by omega)]
theorem Qnot {C : World → Prop} {b : Bool} {K : Value → Prop} (hk : K (.bool (!b))) : QK Try.prog C (do pure (Next.value (← Op.unary UnOp.not (.bool b)))) K := QV_of (fun w _ => rfl) hk
section
variable {w : World} {p : Nat} {R : Rks} {vs : List Value}
theorem post_R0 {b3 : Nat} {r : Rc} {l : List Rc} {v : Value} {K : Exit → Sl → World → Prop} {ρ : Sl} (hb : w.heap[b3]? = some (.cells r.enc.toArray tRc (0, 0))) (hl : RcRow w v l) (hlen : l.length ≤ 1000000) (e3 : ρ 3 = .pointer (some ⟨b3, 0, none⟩)) (e5 : ρ 5 = v)
    (hk : ∀ (ρ' : Sl) (w' : World), ρ' 61 = .bool (badR r l) → (∀ k, k < 19 → ρ' k = ρ k) → Mod none_ w w' → K .normal ρ' w') : W fn_ Try.prog 75 posted_Posted_Post_R0 K ρ w := by
  refine posted_Posted_Post_R0_quiet (D := []) (fun w' => Mod none_ w w') ((Mod.refl _ w).drawn _) ?_
  unfold posted_Posted_Post_R0_Q
  rw [e3, e5]
  have hc : ∀ (k : Nat) (u : Value), r.enc.toArray[k]? = some u → ∀ w', Mod none_ w w' → w'.cell? (Addr.add ⟨b3, 0, none⟩ k) = some u := fun k u hu w' hm => by
    rw [add_pl, Nat.zero_add, cell_blk (hm.blk hb id)]; exact hu
  have hl' := hl
  have fin : ∀ (ρ' : Sl) (b : Bool), badR r l = b → ρ' 61 = .bool b → (∀ k, k < 19 → ρ' k = ρ k) → ∀ w', Mod none_ w w' → K .normal ρ' w' := fun ρ' b hb h61 hlo w' hm => hk ρ' w' (by rw [h61, hb]) hlo hm
  have hin : ∀ (n a b : Int) (K : Value → Prop), K (.bool (decide (a ≤ n) && decide (n ≤ b))) → QK Try.prog (fun w' => Mod none_ w w') (do let d ← Deferred.ofValue (.func (.func 41) #[] #[]) [.int .i64 n, .int .i64 a, .int .i64 b].toArray; invoke d.target d.args) K := fun n a b K hK =>
    QC_rt Try.func41 rfl rfl (fun w' _ => inP_ok n a b w') (fun w' u w'' hw h => ⟨h.1, by rw [h.2]; exact hw⟩) hK
  refine Qfo (show fieldOff Try.prog tRc 1 = some 1 by kernel_rfl) ?_
  refine Qld vI rfl (hc 1 (.int .i64 r.rank) rfl) ?_
  refine hin _ _ _ _ ?_
  refine Qnot ?_
  cases c1 : (decide (0 ≤ r.rank) && decide (r.rank ≤ 63)) with
  | false =>
    rw [Bool.not_false]
    repeat (first | rw [QG_b, if_neg (by decide)] | rw [QG_u] | (refine QP_of ?_; rw [if_pos rfl]))
    exact fin _ true (by unfold badR; rw [c1]; rfl) rfl (fun k hk => by repeat rw [up_lo hk (by decide)])
  | true =>
    rw [Bool.not_true, QG_b, if_pos rfl]
    refine Qfo (show fieldOff Try.prog tRc 3 = some 3 by kernel_rfl) ?_
    rw [QG_b, if_pos rfl]
    refine Qld vI rfl (hc 3 (.int .i64 r.peer) rfl) ?_
    rw [QG_b, if_pos rfl]
    refine hin _ _ _ _ ?_
    rw [QG_b, if_pos rfl]
    refine Qnot ?_
    refine QP_of ?_
    rw [if_neg (by decide)]
    cases c2 : (decide (-1 ≤ r.peer) && decide (r.peer ≤ 63)) with
    | false =>
      rw [Bool.not_false]
      repeat (first | rw [QG_b, if_neg (by decide)] | rw [QG_u] | (refine QP_of ?_; rw [if_pos rfl]))
      exact fin _ true (by unfold badR; rw [c1, c2]; rfl) rfl (fun k hk => by repeat rw [up_lo hk (by decide)])
    | true =>
      rw [Bool.not_true, QG_b, if_pos rfl]
      refine Qfo (show fieldOff Try.prog tRc 4 = some 4 by kernel_rfl) ?_
      rw [QG_b, if_pos rfl]
      refine Qld vI rfl (hc 4 (.int .i64 r.tag) rfl) ?_
      rw [QG_b, if_pos rfl]
      refine hin _ _ _ _ ?_
      rw [QG_b, if_pos rfl]
      refine Qnot ?_
      refine QP_of ?_
      rw [if_neg (by decide)]
      cases c3 : (decide (-1 ≤ r.tag) && decide (r.tag ≤ 32767)) with
      | false =>
        rw [Bool.not_false]
        repeat (first | rw [QG_b, if_neg (by decide)] | rw [QG_u] | (refine QP_of ?_; rw [if_pos rfl]))
        exact fin _ true (by unfold badR; rw [c1, c2, c3]; rfl) rfl (fun k hk => by repeat rw [up_lo hk (by decide)])
      | true =>
        rw [Bool.not_true, QG_b, if_pos rfl]
        refine Qfo (show fieldOff Try.prog tRc 5 = some 5 by kernel_rfl) ?_
        rw [QG_b, if_pos rfl]
        refine Qld vI rfl (hc 5 (.int .i64 r.req) rfl) ?_
        rw [QG_b, if_pos rfl]
        refine Qlss ?_
        refine QP_of ?_
        rw [if_neg (by decide)]
        cases c4 : decide (r.req < -1) with
        | true =>
          repeat (first | rw [QG_b, if_neg (by decide)] | rw [QG_u] | (refine QP_of ?_; rw [if_pos rfl]))
          exact fin _ true (by unfold badR; rw [c1, c2, c3, c4]; rfl) rfl (fun k hk => by repeat rw [up_lo hk (by decide)])
        | false =>
          rw [QG_b, if_pos rfl]
          refine Qfo (show fieldOff Try.prog tRc 2 = some 2 by kernel_rfl) ?_
          rw [QG_b, if_pos rfl]
          refine Qld vI rfl (hc 2 (.int .i64 r.call) rfl) ?_
          rw [QG_b, if_pos rfl]
          refine Qlss ?_
          refine QP_of ?_
          rw [if_neg (by decide)]
          cases c5 : decide (r.call < 0) with
          | true =>
            repeat (first | rw [QG_b, if_neg (by decide)] | rw [QG_u] | (refine QP_of ?_; rw [if_pos rfl]))
            exact fin _ true (by unfold badR; rw [c1, c2, c3, c4, c5]; rfl) rfl (fun k hk => by repeat rw [up_lo hk (by decide)])
          | false =>
            obtain ⟨A, c, es, _⟩ := reads_cap hl
            rw [QG_b, if_pos rfl]
            refine QM ?_
            rw [QG_b, if_pos rfl, es]
            refine QI_len vRcS _ _ _ _ ?_
            rw [QG_b, if_pos rfl]
            refine Qgtr ?_
            rw [QG_b, if_pos rfl]
            refine QM ?_
            cases hlast : l.getLast? with
            | none =>
              rw [List.getLast?_eq_none_iff] at hlast
              subst hlast
              rw [show decide ((0 : Int) < (([] : List Rc).length : Nat)) = false from rfl]
              repeat rw [QG_b, if_neg (by decide)]
              repeat rw [QG_u]
              rw [QG_b, if_pos rfl]
              refine QP_of ?_
              rw [if_neg (by decide)]
              refine QP_of ?_
              rw [if_neg (by decide)]
              exact fin _ false (by unfold badR; rw [c1, c2, c3, c4, c5]; rfl) rfl (fun k hk => by repeat rw [up_lo hk (by decide)])
            | some x =>
              have hne : 0 < l.length := by
                cases l with
                | nil => cases hlast
                | cons a l => simp
              rw [show decide ((0 : Int) < (l.length : Nat)) = true from decide_eq_true (by omega)]
              have hxl : l[l.length - 1]? = some x := by rw [← List.getLast?_eq_getElem?]; exact hlast
              have hcell : ∃ a, A = some a ∧ ∀ w', Mod none_ w w' → w'.cell? (a.add ((l.length - 1) * (8 + 1) + 2)) = some (.int .i64 x.call) := by
                have hget : (l.flatMap Rc.enc)[(l.length - 1) * (8 + 1) + 2]? = some (.int .i64 x.call) := by
                  rw [fl_get (k := 8 + 1) Rc.enc_len hxl (by decide)]; rfl
                obtain ⟨_, A', c', es', _, hr⟩ := hl
                rw [es] at es'
                cases es'
                obtain ⟨a, ha, _⟩ := hr _ _ hget
                refine ⟨a, ha, fun w' hm => ?_⟩
                obtain ⟨_, A2, c2, es2, _, hr2⟩ := RcRow.calm (l := l) (s := v) hl' hm
                rw [es] at es2
                cases es2
                obtain ⟨a2, ha2, hc2⟩ := hr2 _ _ hget
                rw [ha] at ha2
                cases ha2
                exact hc2
              obtain ⟨a, rfl, hcl⟩ := hcell
              rw [QG_b, if_pos rfl]
              refine Qfo (show fieldOff Try.prog tRc 2 = some 2 by kernel_rfl) ?_
              rw [QG_b, if_pos rfl]
              refine Qld vI rfl (hc 2 (.int .i64 r.call) rfl) ?_
              rw [QG_b, if_pos rfl]
              refine QM ?_
              rw [QG_b, if_pos rfl]
              refine QM ?_
              rw [QG_b, if_pos rfl]
              refine QI_len vRcS _ _ _ _ ?_
              rw [QG_b, if_pos rfl]
              refine Qsub ?_
              rw [wrap_i (by omega) (by omega), QG_b, if_pos rfl]
              refine QV_of (fun w _ => run_ixa vRcS cRc (by omega) (by omega) w) ?_
              rw [QG_b, if_pos rfl]
              refine Qfo (show fieldOff Try.prog tRc 2 = some 2 by kernel_rfl) ?_
              rw [QG_b, if_pos rfl]
              refine Qld vI rfl (v := .int .i64 x.call) (fun w' hm => ?_) ?_
              · have := hcl w' hm
                rw [show ((l.length : Int) - 1).toNat = l.length - 1 by omega]
                rw [add_add]
                exact this
              rw [QG_b, if_pos rfl]
              refine Qleq ?_
              rw [QG_b, if_pos rfl]
              refine QP_of ?_
              rw [if_pos rfl]
              refine QP_of ?_
              rw [if_neg (by decide)]
              exact fin _ (decide (r.call ≤ x.call)) (by unfold badR; rw [c1, c2, c3, c4, c5, hlast]; rfl) rfl (fun k hk => by repeat rw [up_lo hk (by decide)])
theorem post_R2 {b3 : Nat} {r : Rc} {v : Value} {rt : Value → World → Prop} {ρ : Sl} (h : PAt w p R vs) (h0 : 0 ≤ r.rank) (h1 : r.rank ≤ 63) (hb : w.heap[b3]? = some (.cells r.enc.toArray tRc (0, 0))) (hbp : ¬ PF p vs b3) (hv : vs[r.rank.toNat]? = some v) (hlen : (R r.rank.toNat).length ≤ 1000000)
    (e3 : ρ 3 = .pointer (some ⟨b3, 0, none⟩)) (e5 : ρ 5 = v) (e0 : ρ 0 = .pointer (some ⟨p, 0, none⟩))
    (hk : ∀ (w' : World) (vs' : List Value), PAt w' p (putR R r.rank.toNat (R r.rank.toNat ++ [r.new])) vs' → Mod (fun b => PF p vs b ∨ b = b3) w w' → (∀ b, PF p vs' b → PF p vs b ∨ w.heap.size ≤ b) → rt (.int .i64 0) w') : sx fn_ Try.prog 75 posted_Posted_Post_R2 (retK Try.prog [ResultVar.tmp 4] rt) ρ w := by
  rw [posted_Posted_Post_R2_eq]; unfold posted_Posted_Post_R2_F
  rw [e3, fo (show fieldOff Try.prog tRc 6 = some 6 by kernel_rfl), add_pl]
  refine stC rfl (by kernel_rfl) rfl hb (by simp [Rc.enc]) fun w1 hb1 hm1 hz1 => ?_
  rw [fo (show fieldOff Try.prog tRc 7 = some 7 by kernel_rfl), add_pl]
  refine stC rfl (by kernel_rfl) rfl hb1 (by simp [Rc.enc]) fun w2 hb2 hm2 hz2 => ?_
  rw [fo (show fieldOff Try.prog tRc 8 = some 8 by kernel_rfl), add_pl]
  refine stC rfl (by kernel_rfl) rfl hb2 (by simp [Rc.enc]) fun w3 hb3 hm3 hz3 => ?_
  have hm03 : Mod (fun b => b = b3) w w3 := (hm1.trans hm2).trans hm3
  have hbn : w3.heap[b3]? = some (.cells r.new.enc.toArray tRc (0, 0)) := hb3
  have h3 : PAt w3 p R vs := h.mod hm03 fun b z y => hbp (y ▸ z)
  have key : ∀ ρ1 : Sl, ρ1 3 = .pointer (some ⟨b3, 0, none⟩) → ρ1 5 = v → ρ1 0 = .pointer (some ⟨p, 0, none⟩) → W fn_ Try.prog 75 posted_Posted_Post_R3 (seqK (sx fn_ Try.prog 75 posted_Posted_Post_R4 (retK Try.prog [ResultVar.tmp 4] rt)) (retK Try.prog [ResultVar.tmp 4] rt)) ρ1 w3 := by
    intro ρ1 q3 q5 q0
    have hd : Mod none_ w3 { w3 with drawn := w3.drawn + 1 } := (Mod.refl _ w3).drawn _
    refine posted_Posted_Post_R3_held (D := []) (fun w' => w'.heap[b3]? = some (.cells r.new.enc.toArray tRc (0, 0))) (hd.blk hbn id) ?_
    have hb4 := hd.blk hbn id
    have h4 := h3.calm hd
    have hm04 := hm03.then hd fun i hi z => z.elim
    generalize ({ w3 with drawn := w3.drawn + 1 } : World) = wd at *
    unfold posted_Posted_Post_R3_H
    rw [q3, q5, q0]
    refine HV_of (fun w _ => run_fo (show fieldOff Try.prog tRc 1 = some 1 by kernel_rfl) _ w) ?_
    refine HV_of (v := .int .i64 r.rank) (fun w hw => run_ld1 vI rfl (by rw [add_pl, cell_blk hw]; rfl)) ?_
    refine HV_of (fun w hw => run_ldB Try.underlying24 rfl (by rw [iRc]; rfl) hw) ?_
    refine HN_ptr ?_
    refine HV_of (fun w _ => run_fo (show fieldOff Try.prog tPd 1 = some 1 by kernel_rfl) _ w) ?_
    refine bs_k (cs := r.new.enc.toArray) (by kernel_rfl) fun w5 hb5 hm5 hz5 => ?_
    refine ⟨hm5.blk hb4 id, ?_⟩
    have h5 := h4.calm hm5
    have hO := h5.rows _ _ hv
    refine ap_any eRcS hO (reads_blk (size := 9) (n := 1) hb5 rfl) (fun u hu => Rc.enc_mem [r.new] u (by simpa using hu)) (by unfold maxLen; omega) (by omega) (Nat.zero_le _) fun v' w6 ho6 hm6 hv6 => ?_
    have hvm := List.mem_of_getElem? hv
    have hm6' : Mod (fun b => sb v b) w5 w6 := hm6.mono fun b _ z => z.symm
    have hb6 := hm6'.blk (hm5.blk hb4 id) fun z => hbp (.inr ⟨v, hvm, z⟩)
    refine ⟨hb6, ?_⟩
    rw [add_pl]
    refine HV_of (fun w _ => run_arr h0 h1 w) ?_
    have hpb := hm6'.blk h5.blk (h5.ne v hvm)
    have hlen64 := h5.len
    have hrk : r.rank.toNat < 64 := by omega
    obtain ⟨g0, cap0, ev0, _⟩ := owns_some ho6 (by omega)
    refine stC rfl (by kernel_rfl) (by rw [ev0]; rfl) hpb (by simp; omega) fun w7 hb7 hm7 hz7 => ?_
    have hb67 := hm7.blk hb6 fun z => hbp (.inl z)
    refine ⟨hb67, ?_⟩
    rw [sq_n, posted_Posted_Post_R4_eq]; unfold posted_Posted_Post_R4_F
    show rt (.int .i64 0) w7
    have hpw5 : p < w5.heap.size := h5.old p (.inl rfl)
    have nv : ∀ g, sb v' g → sb v g ∨ g = w5.heap.size := fun g z => by
      unfold sb at z ⊢
      rcases hv6 with q | q
      · exact .inl (q ▸ z)
      · rw [q] at z; cases z; exact .inr rfl
    have nvp : ¬ sb v' p := fun z => by
      rcases nv p z with q | q
      · exact h5.ne v hvm q
      · omega
    have hm37 : Mod (fun b => PF p vs b ∨ b = b3) w w7 := by
      refine (hm04.mono fun b _ z => .inr z).then ?_ (fun i hi z => z)
      refine (hm5.mono fun b _ z => z.elim).then ?_ (fun i hi z => z)
      refine (hm6'.mono fun b _ z => .inl (.inr ⟨v, hvm, z⟩)).then ?_ (fun i hi z => z)
      exact hm7.mono fun b _ z => .inl (.inl z)
    have hs5 : w.heap.size ≤ w5.heap.size := Nat.le_trans hm04.size hm5.size
    refine hk w7 (vs.set r.rank.toNat v') ⟨?_, by rw [List.length_set]; exact hlen64, fun i u hu => ?_, fun u hu z => ?_, fun i j a b ha hb hij g za zb => ?_⟩ hm37 (fun b z => ?_)
    · rw [hb7, List.setIfInBounds_toArray, show 0 + 1 + r.rank.toNat = r.rank.toNat + 1 by omega, List.set_cons_succ]
    · unfold putR
      by_cases hi : i = r.rank.toNat
      · subst hi
        rw [if_pos rfl]
        rw [List.getElem?_set_self (by omega)] at hu
        cases hu
        have := owns_mod ho6 hm7 fun k z y => nvp (y ▸ z)
        rw [List.length_append, List.flatMap_append]
        simpa using this
      · rw [if_neg hi]
        rw [List.getElem?_set_ne (by omega)] at hu
        exact owns_mod (owns_mod (h5.rows i u hu) hm6' fun k z y => h5.dist i _ u v hu hv hi k z y) hm7 fun k z y => h5.ne u (List.mem_of_getElem? hu) (y ▸ z)
    · obtain ⟨i, hi⟩ := List.getElem?_of_mem hu
      by_cases hi' : i = r.rank.toNat
      · subst hi'
        rw [List.getElem?_set_self (by omega)] at hi
        cases hi
        exact nvp z
      · rw [List.getElem?_set_ne (by omega)] at hi
        exact h5.ne u (List.mem_of_getElem? hi) z
    · by_cases hi' : i = r.rank.toNat
      · subst hi'
        rw [List.getElem?_set_self (by omega)] at ha
        cases ha
        rw [List.getElem?_set_ne (by omega)] at hb
        rcases nv g za with q | q
        · exact h5.dist _ j v b hv hb hij g q zb
        · have := h5.old g (.inr ⟨b, List.mem_of_getElem? hb, zb⟩); omega
      · rw [List.getElem?_set_ne (by omega)] at ha
        by_cases hj' : j = r.rank.toNat
        · subst hj'
          rw [List.getElem?_set_self (by omega)] at hb
          cases hb
          rcases nv g zb with q | q
          · exact h5.dist i _ a v ha hv hi' g za q
          · have := h5.old g (.inr ⟨a, List.mem_of_getElem? ha, za⟩); omega
        · rw [List.getElem?_set_ne (by omega)] at hb
          exact h5.dist i j a b ha hb hij g za zb
    · rcases z with rfl | ⟨u, hu, hz⟩
      · exact .inl (.inl rfl)
      · obtain ⟨i, hi⟩ := List.getElem?_of_mem hu
        by_cases hi' : i = r.rank.toNat
        · subst hi'
          rw [List.getElem?_set_self (by omega)] at hi
          cases hi
          rcases nv b hz with q | q
          · exact .inl (.inr ⟨v, hvm, q⟩)
          · right; omega
        · rw [List.getElem?_set_ne (by omega)] at hi
          exact .inl (.inr ⟨u, List.mem_of_getElem? hi, hz⟩)
  exact key _ (by first | exact e3 | rfl) (by first | exact e5 | rfl) (by first | exact e0 | rfl)
end
end Go.Proofs.Ytmnkedgmpbcicaa.Que
set_option linter.unusedVariables false
set_option linter.unusedSimpArgs false
set_option maxRecDepth 8000
namespace Go.Proofs.Ytmnkedgmpbcicaa.Que
open Go Go.X Go.RowKit Go.Proofs.Ytmnkedgmpbcicaa.XF Go.Proofs.Ytmnkedgmpbcicaa.XG Go.Proofs.Ytmnkedgmpbcicaa.XK
section
variable {w : World} {p : Nat} {R : Rks} {vs : List Value}
theorem row_R {R : Rks} {n : Nat} (hlen : ∀ i, (R i).length ≤ n) (rk : Int) : (rowP R rk).length ≤ n := by
  unfold rowP
  split
  · exact hlen _
  · exact Nat.zero_le _
theorem Post_ok (h : PAt w p R vs) (hlen : ∀ i, (R i).length ≤ 1000000) (r : Rc) : Rt Try.prog 14 #[.pointer (some ⟨p, 0, none⟩), .agg r.enc.toArray] w fun v w' => v = .int .i64 (postV R r).2 ∧ ∃ vs', PAt w' p (postV R r).1 vs' ∧ PFr p w vs w' vs' := by
  refine posted_Posted_Post_calls ?_
  unfold posted_Posted_Post_F
  refine box_k (cs := r.enc.toArray) rfl fun w1 hb1 hm1 hz1 => ?_
  have h1 := h.calm hm1
  rw [BK_eqlP uPd]
  simp only [Option.isNone_some, ↓VG_u, ↓UG_u, ↓MG_u, ↓NG_u, ↓PG_u, ↓BG_u, ↓CG_u, ↓IG_u, ↓VGtt, ↓VGtf, ↓VGft, ↓VGff, ↓UGtt, ↓UGtf, ↓UGft, ↓UGff, ↓MGtt, ↓MGtf, ↓MGft, ↓MGff, ↓NGtt, ↓NGtf, ↓NGft, ↓NGff, ↓PGtt, ↓PGtf, ↓PGft, ↓PGff, ↓BGtt, ↓BGtf, ↓BGft, ↓BGff, ↓CGtt, ↓CGtf, ↓CGft, ↓CGff, ↓IGtt, ↓IGtf, ↓IGft, ↓IGff, ↓PKt, ↓PKf, ↓CDt, ↓CDf, ↓NOTt, ↓NOTf, ↓NK_ptr]
  rw [(f_made h1).e]
  try simp only [↓VG_u, ↓UG_u, ↓MG_u, ↓NG_u, ↓PG_u, ↓BG_u, ↓CG_u, ↓IG_u, ↓VGtt, ↓VGtf, ↓VGft, ↓VGff, ↓UGtt, ↓UGtf, ↓UGft, ↓UGff, ↓MGtt, ↓MGtf, ↓MGft, ↓MGff, ↓NGtt, ↓NGtf, ↓NGft, ↓NGff, ↓PGtt, ↓PGtf, ↓PGft, ↓PGff, ↓BGtt, ↓BGtf, ↓BGft, ↓BGff, ↓CGtt, ↓CGtf, ↓CGft, ↓CGff, ↓IGtt, ↓IGtf, ↓IGft, ↓IGff, ↓PKt, ↓PKf, ↓CDt, ↓CDf, ↓NOTt, ↓NOTf, ↓NK_ptr]
  have g1 : FO Try.prog w1 tRc 1 1 ⟨w.heap.size, 0, none⟩ 3 (.int .i64 r.rank) := FO.blk hb1 (by kernel_rfl) vI rfl rfl
  rw [g1.e]
  refine CK_st Try.func40 rfl rfl (of_ok' h1 r.rank) ?_
  rintro v w2 ⟨rfl, hrow, hv⟩
  have hbp : ¬ PF p vs w.heap.size := fun z => by have := h.old _ z; omega
  refine post_R0 hb1 hrow (row_R hlen _) rfl rfl ?_
  intro ρ3 w3 q61 hlo hm3
  have e3 : ρ3 3 = .pointer (some ⟨w.heap.size, 0, none⟩) := hlo 3 (by decide)
  have e5 : ρ3 5 = v := hlo 5 (by decide)
  have e0 : ρ3 0 = .pointer (some ⟨p, 0, none⟩) := hlo 0 (by decide)
  rw [sq_n, posted_Posted_Post_R1_eq]; unfold posted_Posted_Post_R1_F
  rw [q61]
  have h3 := h1.calm hm3
  unfold postV
  refine caseC (fun q => ?_) (fun q => ?_)
  · rw [q]
    exact ⟨rfl, vs, h3, PFr.calm (hm1.trans hm3)⟩
  · rw [q, sq_n]
    have hr : 0 ≤ r.rank ∧ r.rank ≤ 63 := by
      unfold badR at q
      simp only [Bool.or_eq_false_iff, Bool.not_eq_false', Bool.and_eq_true, decide_eq_true_eq] at q
      exact q.1.1.1.1.1
    have hrw : rowP R r.rank = R r.rank.toNat := by unfold rowP; rw [if_pos hr]
    refine post_R2 (r := r) h3 hr.1 hr.2 (hm3.blk hb1 id) hbp (hv hr) (hlen _) e3 e5 e0 fun w4 vs' h4 hm4 hf4 => ?_
    have s1 := hm1.size
    have s3 := hm3.size
    refine ⟨rfl, vs', ?_, ?_, ?_⟩
    · simp only [Bool.false_eq_true, if_false]
      rw [hrw]
      exact h4
    · refine (Mod.mono (hm1.trans hm3) fun b _ z => z.elim).then hm4 fun i hi z => ?_
      rcases z with z | z
      · exact z
      · omega
    · intro b z
      rcases hf4 b z with u | u
      · exact .inl u
      · right; omega
theorem place1_ok {w : World} {cb : Nat} {c : Int} (hb : w.heap[cb]? = some (.cells #[.int .i64 c] 3 (0, 0))) (r : Rc) : Rt Try.prog 67 #[.agg r.enc.toArray, .pointer (some ⟨cb, 0, none⟩)] w fun v w' => v = .bool (decide (r.call = c)) ∧ Mod none_ w w' := by
  refine posted_Posted_place_1_calls ?_
  unfold posted_Posted_place_1_F
  refine box_k (cs := r.enc.toArray) rfl fun w1 hb1 hm1 hz1 => ?_
  have g : FO Try.prog w1 tRc 2 2 ⟨w.heap.size, 0, none⟩ 3 (.int .i64 r.call) := FO.blk hb1 (by kernel_rfl) vI rfl rfl
  rw [g.e]
  refine ldOne rfl vI rfl (hm1.blk hb id) ?_
  rw [BK_eql]
  exact ⟨by by_cases e : r.call = c <;> simp [e], hm1⟩
def isC (c : Int) (r : Rc) : Bool := decide (r.call = c)
theorem place_ok' (h : PAt w p R vs) (hlen : ∀ i, (R i).length ≤ 1000000) (rk c : Int) : Rt Try.prog 42 #[.pointer (some ⟨p, 0, none⟩), .int .i64 rk, .int .i64 c] w fun v w' => v = .int .i64 (idxR (isC c) (rowP R rk)) ∧ Mod none_ w w' := by
  refine posted_Posted_place_calls ?_
  unfold posted_Posted_place_F
  refine box_k (cs := #[.int .i64 c]) rfl fun w1 hb1 hm1 hz1 => ?_
  refine CK_st Try.func40 rfl rfl (of_ok' (h.calm hm1) rk) ?_
  rintro v w2 ⟨rfl, hrow, hv⟩
  rw [mkFunc]
  have := row_R hlen rk
  refine CK_st Try.func66 rfl rfl (IndexFuncRc_ok (p := isC c) hrow (by omega) ?_) ?_
  · intro a _ w' hm K hK
    refine CK_fn Try.func67 rfl rfl (place1_ok (hm.blk hb1 id) a) ?_
    rintro _ w'' ⟨rfl, hm'⟩
    exact hK w'' hm'
  · rintro _ w3 ⟨rfl, hm3⟩
    exact ⟨rfl, hm1.trans hm3⟩
def rcb (o : Option Rc) : Value := match o with | some r => .tuple #[.agg r.enc.toArray, .bool true] | none => .tuple #[.agg zRc.enc.toArray, .bool false]
theorem idxR_find {l : List Rc} {q : Rc → Bool} : (idxR q l < 0 ∧ l.find? q = none) ∨ ∃ (j : Nat) (r : Rc), idxR q l = (j : Int) ∧ l[j]? = some r ∧ l.find? q = some r ∧ l.findIdx? q = some j := by
  unfold idxR
  cases hq : l.findIdx? q with
  | none =>
    left
    rw [List.findIdx?_eq_none_iff] at hq
    exact ⟨by decide, List.find?_eq_none.2 fun x hx => by rw [hq x hx]; decide⟩
  | some j =>
    right
    have hq' := hq
    rw [List.findIdx?_eq_some_iff_getElem] at hq
    obtain ⟨hj, hp, hlt⟩ := hq
    refine ⟨j, l[j], rfl, List.getElem?_eq_getElem hj, ?_, rfl⟩
    rw [List.find?_eq_some_iff_getElem]
    exact ⟨hp, j, hj, rfl, fun i hi => by have := hlt i hi; simpa using this⟩
end
end Go.Proofs.Ytmnkedgmpbcicaa.Que
set_option linter.unusedVariables false
set_option linter.unusedSimpArgs false
set_option maxRecDepth 8000
namespace Go.Proofs.Ytmnkedgmpbcicaa.Que
open Go Go.X Go.RowKit Go.Proofs.Ytmnkedgmpbcicaa.XF Go.Proofs.Ytmnkedgmpbcicaa.XG Go.Proofs.Ytmnkedgmpbcicaa.XK
section
variable {w wB : World} {q b4 : Nat} {ls : List Ms} {V : QV} {r : Rc} {wait : List Rc} {S : List Int} {vw vS : Value}
end
end Go.Proofs.Ytmnkedgmpbcicaa.Que
set_option linter.unusedVariables false
set_option linter.unusedSimpArgs false
set_option maxRecDepth 8000
namespace Go.Proofs.Ytmnkedgmpbcicaa.Que
open Go Go.X Go.RowKit Go.Proofs.Ytmnkedgmpbcicaa.XF Go.Proofs.Ytmnkedgmpbcicaa.XG Go.Proofs.Ytmnkedgmpbcicaa.XK
section
variable {w : World} {p q : Nat} {R : Rks} {vs : List Value} {ls : List Ms} {V : QV}
end
end Go.Proofs.Ytmnkedgmpbcicaa.Que
set_option linter.unusedVariables false
set_option linter.unusedSimpArgs false
set_option maxRecDepth 8000
namespace Go.X
open Go Go.RowKit
end Go.X
namespace Go.Proofs.Ytmnkedgmpbcicaa.Que
open Go Go.X Go.RowKit Go.Proofs.Ytmnkedgmpbcicaa.XF Go.Proofs.Ytmnkedgmpbcicaa.XG Go.Proofs.Ytmnkedgmpbcicaa.XK
structure PP (w0 w : World) (q p : Nat) (ls : List Ms) (V : QV) (R : Rks) (vs : List Value) : Prop where
  qa : QAt w q ls V
  pa : PAt w p R vs
  dj : ∀ b, V.F q b → ¬ PF p vs b
  fq : ∀ b, V.F q b → w0.heap.size ≤ b
  fp : ∀ b, PF p vs b → w0.heap.size ≤ b
  mod : Mod none_ w0 w
section
variable {w0 w w1 : World} {q p : Nat} {ls ls' : List Ms} {V V1 : QV} {R R' : Rks} {vs vs' : List Value}
theorem PP.move {S : Nat → Prop} (h : PP w0 w q p ls V R vs) (hm : Mod S w w1) (hS : ∀ b, S b → ¬ V.F q b ∧ ¬ PF p vs b ∧ w0.heap.size ≤ b) : PP w0 w1 q p ls V R vs :=
  ⟨h.qa.mod hm fun b z y => (hS b y).1 z, h.pa.mod hm fun b z y => (hS b y).2.1 z, h.dj, h.fq, h.fp, h.mod.then hm fun i hi z => by have := (hS i z).2.2; omega⟩
theorem PP.calm (h : PP w0 w q p ls V R vs) (hm : Mod none_ w w1) : PP w0 w1 q p ls V R vs := h.move hm fun _ z => z.elim
end
end Go.Proofs.Ytmnkedgmpbcicaa.Que
set_option linter.unusedVariables false
set_option linter.unusedSimpArgs false
set_option maxRecDepth 8000
namespace Go.Proofs.Ytmnkedgmpbcicaa.Que
open Go Go.X Go.RowKit Go.Proofs.Ytmnkedgmpbcicaa.XF Go.Proofs.Ytmnkedgmpbcicaa.XG Go.Proofs.Ytmnkedgmpbcicaa.XK
section
variable {w0 w : World} {q p : Nat} {ls : List Ms} {V : QV} {R : Rks} {vs : List Value}
end
end Go.Proofs.Ytmnkedgmpbcicaa.Que
set_option linter.unusedVariables false
set_option linter.unusedSimpArgs false
set_option maxRecDepth 8000
namespace Go.Proofs.Ytmnkedgmpbcicaa.Que
open Go Go.X Go.RowKit Go.Proofs.Ytmnkedgmpbcicaa.XF Go.Proofs.Ytmnkedgmpbcicaa.XG Go.Proofs.Ytmnkedgmpbcicaa.XK
def am (c t : Int) : Ms := ⟨[], 1, 0, c, t, 0, 1, false⟩
def ar (c pr tg : Int) : Rc := ⟨[], 0, c, pr, tg, -1, false, 0, 0⟩
def aR0 : Rks := fun _ => []
def aR1 : Rks := (postV aR0 (ar 0 (-1) 5)).1
def aR2 : Rks := (postV aR1 (ar 1 1 (-1))).1
def aQ : List Ms := [am 0 5, am 1 6]
theorem a1 : (postV aR0 (ar 0 (-1) 5)).2 = 0 := by decide
theorem a2 : (postV aR1 (ar 1 1 (-1))).2 = 0 := by decide
theorem a3 : postV aR2 (ar 1 1 1) = (aR2, 2) := by unfold postV; rw [if_pos (by decide)]
theorem a4 : sendV [] (am 0 5) = ([am 0 5], 0) := by decide
theorem a5 : sendV [am 0 5] (am 1 6) = (aQ, 0) := by decide
theorem post_len {R : Rks} {n : Nat} (h : ∀ i, (R i).length ≤ n) (r : Rc) (i : Nat) : ((postV R r).1 i).length ≤ n + 1 := by
  unfold postV
  split
  · exact Nat.le_succ_of_le (h i)
  · dsimp only
    unfold putR
    split
    · rw [List.length_append, List.length_singleton]
      have := row_R h r.rank
      omega
    · exact Nat.le_succ_of_le (h i)
end Go.Proofs.Ytmnkedgmpbcicaa.Que
set_option linter.unusedVariables false
set_option linter.unusedSimpArgs false
set_option maxRecDepth 8000
namespace Go.X
open Go Go.RowKit
structure Bc where
  kind : Int
  m : Ms
  r : Rc
def Bc.enc (a : Bc) : List Value := .int .u8 a.kind :: (a.m.enc ++ a.r.enc)
theorem Bc.enc_len (a : Bc) : a.enc.length = 17 + 1 := rfl
def Bcts (w : World) (v : Value) (l : List Bc) : Prop := reads w (17 + 1) v l.length (l.flatMap Bc.enc)
def greatB (l : List Bc) : Bool := decide (120 < l.length) || l.any fun a => decide (100 < a.m.key.length) || decide (100 < a.r.key.length)
end Go.X
namespace Go.Proofs.Ytmnkedgmpbcicaa.Que
open Go Go.X Go.RowKit Go.Proofs.Ytmnkedgmpbcicaa.XF Go.Proofs.Ytmnkedgmpbcicaa.XG Go.Proofs.Ytmnkedgmpbcicaa.XK
abbrev tBcs : TypeId := 22
abbrev tBc : TypeId := 48
theorem vBcs : Try.prog.underlying tBcs = some (.slice tBc) := by kernel_rfl
theorem cBc : Try.prog.cellsOf tBc = 17 + 1 := by kernel_rfl
theorem ixBc {w : World} {s : Value} {l : List Bc} {i : Nat} {n : Int} {e : Bc} {K : Value → World → Prop} (h : Bcts w s l) (hi : l[i]? = some e) (hn : n = (i : Int)) (hk : ∀ a, (∀ j u, e.enc[j]? = some u → w.cell? (a.add j) = some u) → K (.pointer (some a)) w) :
    VK Try.prog (Instr.indexAt tBcs s (.int .i64 n)) w K := by
  subst hn
  have hlt : i < l.length := (List.getElem?_eq_some_iff.1 hi).1
  refine ixat vBcs cBc h (by omega) (by omega) fun a ha _ => hk a fun j u hu => ?_
  have hj : j < 17 + 1 := (List.getElem?_eq_some_iff.1 hu).1
  refine ha j u hj ?_
  rw [show ((i : Int).toNat) = i by omega, fl_get (k := 17 + 1) Bc.enc_len hi hj]
  exact hu
theorem Bcts.calm {w w' : World} {s : Value} {l : List Bc} (h : Bcts w s l) (hm : Mod none_ w w') : Bcts w' s l := reads_mod h hm fun _ _ _ => id
theorem GreatB_ok {w : World} {v : Value} {l : List Bc} (h : Bcts w v l) : Rt Try.prog 11 #[v] w fun u w' => u = .bool (greatB l) ∧ w' = w := by
  refine dispatcherlaw14_Great_calls ?_
  unfold dispatcherlaw14_Great_F
  obtain ⟨A, c, es, _⟩ := reads_cap h
  rw [es, len_sl vBcs, ← es, BK_gtr]
  unfold greatB
  by_cases hl : 120 < l.length
  · rw [decide_eq_true (by omega), decide_eq_true hl]
    exact condT ⟨rfl, rfl⟩
  · rw [decide_eq_false (by omega), decide_eq_false hl]
    refine condF ?_
    refine W_loop dispatcherlaw14_Great_L0_ok (fun ρ w' => ∃ i : Nat, i ≤ l.length ∧ ρ 3 = .int .i64 i ∧ ρ 0 = v ∧ (∀ a ∈ l.take i, ¬ 100 < a.m.key.length ∧ ¬ 100 < a.r.key.length) ∧ w' = w) (fun ρ _ => l.length - (intOf (ρ 3)).toNat)
      ⟨0, Nat.zero_le _, rfl, rfl, by simp, rfl⟩ ?_
    rintro ρ w1 ⟨i, hi, e3, e0, hno, rfl⟩
    rw [dispatcherlaw14_Great_L0_eq]; unfold dispatcherlaw14_Great_L0_F
    rw [e3, e0, es, len_sl vBcs, ← es, BK_lss]
    by_cases hlt : i < l.length
    · rw [decide_eq_true (by omega)]
      refine condT ?_
      have hx : l[i]? = some l[i] := List.getElem?_eq_getElem hlt
      have hmem : l[i] ∈ l := List.getElem_mem hlt
      have etk : l.take (i + 1) = l.take i ++ [l[i]] := by rw [List.take_add_one, hx]; rfl
      generalize l[i] = x at *
      refine ixBc h hx rfl fun a ha => ?_
      rw [fo (show fieldOff Try.prog tBc 1 = some 1 by kernel_rfl), fo (show fieldOff Try.prog tMs 0 = some 0 by kernel_rfl), add_add]
      refine ld1 vS rfl (ha 1 (strV x.m.key) rfl) ?_
      unfold strV
      rw [len_str vS, BK_gtr]
      have hsz : (⟨x.m.key.toArray⟩ : ByteArray).size = x.m.key.length := by simp [ByteArray.size]
      have hsz2 : (⟨x.r.key.toArray⟩ : ByteArray).size = x.r.key.length := by simp [ByteArray.size]
      rw [hsz]
      by_cases hk : 100 < x.m.key.length
      · rw [decide_eq_true (show (100 : Int) < (x.m.key.length : Nat) by omega)]
        try simp only [↓VG_u, ↓UG_u, ↓MG_u, ↓NG_u, ↓PG_u, ↓BG_u, ↓CG_u, ↓IG_u, ↓VGtt, ↓VGtf, ↓VGft, ↓VGff, ↓UGtt, ↓UGtf, ↓UGft, ↓UGff, ↓MGtt, ↓MGtf, ↓MGft, ↓MGff, ↓NGtt, ↓NGtf, ↓NGft, ↓NGff, ↓PGtt, ↓PGtf, ↓PGft, ↓PGff, ↓BGtt, ↓BGtf, ↓BGft, ↓BGff, ↓CGtt, ↓CGtf, ↓CGft, ↓CGff, ↓IGtt, ↓IGtf, ↓IGft, ↓IGff, ↓PKt, ↓PKf, ↓CDt, ↓CDf, ↓NOTt, ↓NOTf, ↓NK_ptr]
        refine ⟨?_, by trivial⟩
        rw [List.any_eq_true.2 ⟨x, hmem, by rw [decide_eq_true hk]; rfl⟩]
        first | rfl | simp
      · rw [decide_eq_false (show ¬ (100 : Int) < (x.m.key.length : Nat) by omega)]
        try simp only [↓VG_u, ↓UG_u, ↓MG_u, ↓NG_u, ↓PG_u, ↓BG_u, ↓CG_u, ↓IG_u, ↓VGtt, ↓VGtf, ↓VGft, ↓VGff, ↓UGtt, ↓UGtf, ↓UGft, ↓UGff, ↓MGtt, ↓MGtf, ↓MGft, ↓MGff, ↓NGtt, ↓NGtf, ↓NGft, ↓NGff, ↓PGtt, ↓PGtf, ↓PGft, ↓PGff, ↓BGtt, ↓BGtf, ↓BGft, ↓BGff, ↓CGtt, ↓CGtf, ↓CGft, ↓CGff, ↓IGtt, ↓IGtf, ↓IGft, ↓IGff, ↓PKt, ↓PKf, ↓CDt, ↓CDf, ↓NOTt, ↓NOTf, ↓NK_ptr]
        refine ixBc h hx rfl fun a2 ha2 => ?_
        try simp only [↓VG_u, ↓UG_u, ↓MG_u, ↓NG_u, ↓PG_u, ↓BG_u, ↓CG_u, ↓IG_u, ↓VGtt, ↓VGtf, ↓VGft, ↓VGff, ↓UGtt, ↓UGtf, ↓UGft, ↓UGff, ↓MGtt, ↓MGtf, ↓MGft, ↓MGff, ↓NGtt, ↓NGtf, ↓NGft, ↓NGff, ↓PGtt, ↓PGtf, ↓PGft, ↓PGff, ↓BGtt, ↓BGtf, ↓BGft, ↓BGff, ↓CGtt, ↓CGtf, ↓CGft, ↓CGff, ↓IGtt, ↓IGtf, ↓IGft, ↓IGff, ↓PKt, ↓PKf, ↓CDt, ↓CDf, ↓NOTt, ↓NOTf, ↓NK_ptr]
        rw [fo (show fieldOff Try.prog tBc 2 = some 9 by kernel_rfl)]
        try simp only [↓VG_u, ↓UG_u, ↓MG_u, ↓NG_u, ↓PG_u, ↓BG_u, ↓CG_u, ↓IG_u, ↓VGtt, ↓VGtf, ↓VGft, ↓VGff, ↓UGtt, ↓UGtf, ↓UGft, ↓UGff, ↓MGtt, ↓MGtf, ↓MGft, ↓MGff, ↓NGtt, ↓NGtf, ↓NGft, ↓NGff, ↓PGtt, ↓PGtf, ↓PGft, ↓PGff, ↓BGtt, ↓BGtf, ↓BGft, ↓BGff, ↓CGtt, ↓CGtf, ↓CGft, ↓CGff, ↓IGtt, ↓IGtf, ↓IGft, ↓IGff, ↓PKt, ↓PKf, ↓CDt, ↓CDf, ↓NOTt, ↓NOTf, ↓NK_ptr]
        rw [fo (show fieldOff Try.prog tRc 0 = some 0 by kernel_rfl), add_add]
        try simp only [↓VG_u, ↓UG_u, ↓MG_u, ↓NG_u, ↓PG_u, ↓BG_u, ↓CG_u, ↓IG_u, ↓VGtt, ↓VGtf, ↓VGft, ↓VGff, ↓UGtt, ↓UGtf, ↓UGft, ↓UGff, ↓MGtt, ↓MGtf, ↓MGft, ↓MGff, ↓NGtt, ↓NGtf, ↓NGft, ↓NGff, ↓PGtt, ↓PGtf, ↓PGft, ↓PGff, ↓BGtt, ↓BGtf, ↓BGft, ↓BGff, ↓CGtt, ↓CGtf, ↓CGft, ↓CGff, ↓IGtt, ↓IGtf, ↓IGft, ↓IGff, ↓PKt, ↓PKf, ↓CDt, ↓CDf, ↓NOTt, ↓NOTf, ↓NK_ptr]
        refine ld1 vS rfl (ha2 9 (strV x.r.key) rfl) ?_
        unfold strV
        try simp only [↓VG_u, ↓UG_u, ↓MG_u, ↓NG_u, ↓PG_u, ↓BG_u, ↓CG_u, ↓IG_u, ↓VGtt, ↓VGtf, ↓VGft, ↓VGff, ↓UGtt, ↓UGtf, ↓UGft, ↓UGff, ↓MGtt, ↓MGtf, ↓MGft, ↓MGff, ↓NGtt, ↓NGtf, ↓NGft, ↓NGff, ↓PGtt, ↓PGtf, ↓PGft, ↓PGff, ↓BGtt, ↓BGtf, ↓BGft, ↓BGff, ↓CGtt, ↓CGtf, ↓CGft, ↓CGff, ↓IGtt, ↓IGtf, ↓IGft, ↓IGff, ↓PKt, ↓PKf, ↓CDt, ↓CDf, ↓NOTt, ↓NOTf, ↓NK_ptr]
        rw [len_str vS]
        try simp only [↓VG_u, ↓UG_u, ↓MG_u, ↓NG_u, ↓PG_u, ↓BG_u, ↓CG_u, ↓IG_u, ↓VGtt, ↓VGtf, ↓VGft, ↓VGff, ↓UGtt, ↓UGtf, ↓UGft, ↓UGff, ↓MGtt, ↓MGtf, ↓MGft, ↓MGff, ↓NGtt, ↓NGtf, ↓NGft, ↓NGff, ↓PGtt, ↓PGtf, ↓PGft, ↓PGff, ↓BGtt, ↓BGtf, ↓BGft, ↓BGff, ↓CGtt, ↓CGtf, ↓CGft, ↓CGff, ↓IGtt, ↓IGtf, ↓IGft, ↓IGff, ↓PKt, ↓PKf, ↓CDt, ↓CDf, ↓NOTt, ↓NOTf, ↓NK_ptr]
        rw [BK_gtr, hsz2]
        try simp only [↓VG_u, ↓UG_u, ↓MG_u, ↓NG_u, ↓PG_u, ↓BG_u, ↓CG_u, ↓IG_u, ↓VGtt, ↓VGtf, ↓VGft, ↓VGff, ↓UGtt, ↓UGtf, ↓UGft, ↓UGff, ↓MGtt, ↓MGtf, ↓MGft, ↓MGff, ↓NGtt, ↓NGtf, ↓NGft, ↓NGff, ↓PGtt, ↓PGtf, ↓PGft, ↓PGff, ↓BGtt, ↓BGtf, ↓BGft, ↓BGff, ↓CGtt, ↓CGtf, ↓CGft, ↓CGff, ↓IGtt, ↓IGtf, ↓IGft, ↓IGff, ↓PKt, ↓PKf, ↓CDt, ↓CDf, ↓NOTt, ↓NOTf, ↓NK_ptr]
        by_cases hk2 : 100 < x.r.key.length
        · rw [decide_eq_true (show (100 : Int) < (x.r.key.length : Nat) by omega)]
          refine condT ⟨?_, rfl⟩
          rw [List.any_eq_true.2 ⟨x, hmem, by rw [decide_eq_true hk2, Bool.or_true]⟩]; rfl
        · rw [decide_eq_false (show ¬ (100 : Int) < (x.r.key.length : Nat) by omega)]
          refine condF ?_
          rw [BK_add, wrap_i (by omega) (by omega)]
          refine ⟨⟨i + 1, hlt, rfl, by first | rfl | exact e0, ?_, rfl⟩, ?_⟩
          · rw [etk]
            intro a q
            rcases List.mem_append.1 q with q | q
            · exact hno a q
            · rw [List.mem_singleton.1 q]; exact ⟨hk, hk2⟩
          · simp only [sq_n, sq_x, sq_r, bk_n, bk_r, bk_x, rt_r, rt_n, rs_0, rs_t, pk_1, pk_2, up_at, reduceIte, Nat.reduceEqDiff, intOf]; omega
    · obtain rfl : i = l.length := by omega
      rw [decide_eq_false (by omega)]
      refine condF ?_
      rw [sq_x, bk_x, sq_n, dispatcherlaw14_Great_R1_eq]; unfold dispatcherlaw14_Great_R1_F
      refine ⟨?_, rfl⟩
      rw [List.take_length] at hno
      have : (l.any fun a => decide (100 < a.m.key.length) || decide (100 < a.r.key.length)) = false := List.any_eq_false.2 fun a ha => by have := hno a ha; simp only [Bool.or_eq_true, decide_eq_true_eq, not_or]; exact this
      rw [this]; rfl
structure MFr (q p : Nat) (w : World) (V : QV) (vs : List Value) (w' : World) (V' : QV) (vs' : List Value) : Prop where
  mod : Mod (fun b => V.F q b ∨ PF p vs b) w w'
  f : ∀ b, V'.F q b ∨ PF p vs' b → (V.F q b ∨ PF p vs b) ∨ w.heap.size ≤ b
theorem MFr.calm {q p : Nat} {w w' : World} {V : QV} {vs : List Value} (h : Mod none_ w w') : MFr q p w V vs w' V vs := ⟨h.mono fun _ _ q => q.elim, fun _ q => .inl q⟩
theorem MFr.trans {q p : Nat} {w w1 w2 : World} {V V1 V2 : QV} {vs vs1 vs2 : List Value} (h : MFr q p w V vs w1 V1 vs1) (k : MFr q p w1 V1 vs1 w2 V2 vs2) : MFr q p w V vs w2 V2 vs2 := by
  have hs := h.mod.size
  refine ⟨h.mod.then k.mod fun i hi z => ?_, fun b z => ?_⟩
  · rcases h.f i z with y | y
    · exact y
    · omega
  · rcases k.f b z with y | y
    · exact h.f b y
    · right; omega
theorem MFr.q {q p : Nat} {w w1 : World} {V V1 : QV} {vs : List Value} (h : QFr q w V w1 V1) : MFr q p w V vs w1 V1 vs := ⟨h.mod.mono fun b _ z => .inl z, fun b z => by
  rcases z with z | z
  · rcases h.f b z with y | y
    · exact .inl (.inl y)
    · exact .inr y
  · exact .inl (.inr z)⟩
theorem MFr.p {q p : Nat} {w w1 : World} {V : QV} {vs vs1 : List Value} (h : PFr p w vs w1 vs1) : MFr q p w V vs w1 V vs1 := ⟨h.mod.mono fun b _ z => .inr z, fun b z => by
  rcases z with z | z
  · exact .inl (.inl z)
  · rcases h.f b z with y | y
    · exact .inl (.inr y)
    · exact .inr y⟩
theorem MFr.m {q p : Nat} {w w1 : World} {V : QV} {vs : List Value} (h : Mod (fun b => V.F q b ∨ PF p vs b) w w1) : MFr q p w V vs w1 V vs := ⟨h, fun b z => .inl z⟩
structure Beside (q p : Nat) (V : QV) (vs : List Value) (w : World) (o : Value) : Prop where
  ap : ∀ g, sb o g → ¬ (V.F q g ∨ PF p vs g)
  old : ∀ g, sb o g → g < w.heap.size
theorem Beside.new {w0 w w1 : World} {q p : Nat} {V : QV} {vs : List Value} {ls : List Ms} {R : Rks} {o : Value} {n sz : Nat} {e : TypeId} {xs : List Value} (h : PP w0 w q p ls V R vs) (ho : w1.ownsRow w.heap.size e sz o n xs) : Beside q p V vs w1 o := by
  refine ⟨fun g z y => ?_, fun g z => (owns_bd ho g z).2⟩
  have := (owns_bd ho g z).1
  rcases y with y | y
  · have := h.qa.old g y; omega
  · have := h.pa.old g y; omega
end Go.Proofs.Ytmnkedgmpbcicaa.Que
set_option linter.unusedVariables false
set_option linter.unusedSimpArgs false
set_option maxRecDepth 8000
namespace Go.Proofs.Ytmnkedgmpbcicaa.Que
open Go Go.X Go.RowKit Go.Proofs.Ytmnkedgmpbcicaa.XF Go.Proofs.Ytmnkedgmpbcicaa.XG Go.Proofs.Ytmnkedgmpbcicaa.XK
section
variable {w0 w : World} {q p : Nat} {ls : List Ms} {V : QV} {R : Rks} {vs : List Value}
end
end Go.Proofs.Ytmnkedgmpbcicaa.Que
set_option linter.unusedVariables false
set_option linter.unusedSimpArgs false
set_option maxRecDepth 8000
namespace Go.Proofs.Ytmnkedgmpbcicaa.Que
open Go Go.X Go.RowKit Go.Proofs.Ytmnkedgmpbcicaa.XF Go.Proofs.Ytmnkedgmpbcicaa.XG Go.Proofs.Ytmnkedgmpbcicaa.XK
abbrev nilS : Value := .slice none 0 0
def zPd : List Value := .bool false :: List.replicate 64 nilS
def NilP (w : World) (p : Option Addr) : Prop := p = none ∨ ∃ b, p = some ⟨b, 0, none⟩ ∧ w.heap[b]? = some (.cells zPd.toArray tPd (0, 0))
theorem NilP.calm {w w' : World} {p : Option Addr} (h : NilP w p) (hm : Mod none_ w w') : NilP w' p := by
  rcases h with h | ⟨b, h, hb⟩
  · exact .inl h
  · exact .inr ⟨b, h, hm.blk hb id⟩
theorem kept_nil (w : World) : Rt Try.prog 46 #[nilS, .func (.func 47) #[] #[]] w fun v w' => v = nilS ∧ Mod none_ w w' := by
  refine posted_kept_posted_Receive_calls ?_
  unfold posted_kept_posted_Receive_F
  rw [len_sl vRcS]
  refine W_loop posted_kept_posted_Receive_L0_ok (fun ρ w' => ρ 10 = .int .i64 0 ∧ ρ 9 = .int .i64 0 ∧ ρ 5 = nilS ∧ w' = w) (fun ρ _ => 0) ⟨rfl, rfl, rfl, rfl⟩ ?_
  rintro ρ w ⟨e10, e9, e5, rfl⟩
  rw [posted_kept_posted_Receive_L0_eq]; unfold posted_kept_posted_Receive_L0_F
  rw [e10, e9, e5, BK_lss, show decide ((0 : Int) < 0) = false from rfl]
  refine condF ?_
  rw [sq_x, bk_x, sq_n, posted_kept_posted_Receive_R1_eq]; unfold posted_kept_posted_Receive_R1_F
  have key : ∀ ρ0 : Sl, ρ0 5 = nilS → retK Try.prog [ResultVar.tmp 4] (fun v w' => v = nilS ∧ Mod none_ w w') .ret (up (up ρ0 22 (ρ0 5)) 4 (ρ0 5)) w := by
    intro ρ0 q
    show ρ0 5 = nilS ∧ _
    exact ⟨q, Mod.refl _ _⟩
  exact key _ (by first | exact e5 | rfl)
theorem bad_made {w : World} {b : Nat} (h : w.heap[b]? = some (.cells zPd.toArray tPd (0, 0))) : FO Try.prog w tPd 0 0 ⟨b, 0, none⟩ 4 (.bool false) := FO.blk h (by kernel_rfl) vB rfl rfl
section
variable {w : World} {p : Option Addr}
theorem of_nil (h : NilP w p) (rk : Int) : Rt Try.prog 40 #[.pointer p, .int .i64 rk] w fun v w' => v = nilS ∧ w' = w := by
  refine posted_Posted_of_calls ?_
  unfold posted_Posted_of_F
  rw [BK_eqlP uPd]
  rcases h with rfl | ⟨b, rfl, hb⟩
  · simp only [Option.isNone_none, ↓VG_u, ↓UG_u, ↓MG_u, ↓NG_u, ↓PG_u, ↓BG_u, ↓CG_u, ↓IG_u, ↓VGtt, ↓VGtf, ↓VGft, ↓VGff, ↓UGtt, ↓UGtf, ↓UGft, ↓UGff, ↓MGtt, ↓MGtf, ↓MGft, ↓MGff, ↓NGtt, ↓NGtf, ↓NGft, ↓NGff, ↓PGtt, ↓PGtf, ↓PGft, ↓PGff, ↓BGtt, ↓BGtf, ↓BGft, ↓BGff, ↓CGtt, ↓CGtf, ↓CGft, ↓CGff, ↓IGtt, ↓IGtf, ↓IGft, ↓IGff, ↓PKt, ↓PKf, ↓CDt, ↓CDf, ↓NOTt, ↓NOTf, ↓NK_ptr]
    exact ⟨by trivial, by trivial⟩
  · simp only [Option.isNone_some, ↓VG_u, ↓UG_u, ↓MG_u, ↓NG_u, ↓PG_u, ↓BG_u, ↓CG_u, ↓IG_u, ↓VGtt, ↓VGtf, ↓VGft, ↓VGff, ↓UGtt, ↓UGtf, ↓UGft, ↓UGff, ↓MGtt, ↓MGtf, ↓MGft, ↓MGff, ↓NGtt, ↓NGtf, ↓NGft, ↓NGff, ↓PGtt, ↓PGtf, ↓PGft, ↓PGff, ↓BGtt, ↓BGtf, ↓BGft, ↓BGff, ↓CGtt, ↓CGtf, ↓CGft, ↓CGff, ↓IGtt, ↓IGtf, ↓IGft, ↓IGff, ↓PKt, ↓PKf, ↓CDt, ↓CDf, ↓NOTt, ↓NOTf, ↓NK_ptr]
    rw [(bad_made hb).e]
    try simp only [↓VG_u, ↓UG_u, ↓MG_u, ↓NG_u, ↓PG_u, ↓BG_u, ↓CG_u, ↓IG_u, ↓VGtt, ↓VGtf, ↓VGft, ↓VGff, ↓UGtt, ↓UGtf, ↓UGft, ↓UGff, ↓MGtt, ↓MGtf, ↓MGft, ↓MGff, ↓NGtt, ↓NGtf, ↓NGft, ↓NGff, ↓PGtt, ↓PGtf, ↓PGft, ↓PGff, ↓BGtt, ↓BGtf, ↓BGft, ↓BGff, ↓CGtt, ↓CGtf, ↓CGft, ↓CGff, ↓IGtt, ↓IGtf, ↓IGft, ↓IGff, ↓PKt, ↓PKf, ↓CDt, ↓CDf, ↓NOTt, ↓NOTf, ↓NK_ptr]
    exact ⟨by trivial, by trivial⟩
theorem rowN (w : World) : RcRow w nilS [] := RcRow.nil w
theorem place_nil (h : NilP w p) (rk c : Int) : Rt Try.prog 42 #[.pointer p, .int .i64 rk, .int .i64 c] w fun v w' => v = .int .i64 (-1) ∧ Mod none_ w w' := by
  refine posted_Posted_place_calls ?_
  unfold posted_Posted_place_F
  refine box_k (cs := #[.int .i64 c]) rfl fun w1 hb1 hm1 hz1 => ?_
  refine CK_st Try.func40 rfl rfl (of_nil (h.calm hm1) rk) ?_
  rintro _ w1 ⟨rfl, rfl⟩
  rw [mkFunc]
  refine CK_st Try.func66 rfl rfl (IndexFuncRc_ok (p := isC c) (rowN w1) (Nat.zero_le _) (fun a ha => by cases ha)) ?_
  rintro _ w3 ⟨rfl, hm3⟩
  exact ⟨rfl, hm1.trans hm3⟩
theorem At_nil (h : NilP w p) (rk c : Int) : Rt Try.prog 21 #[.pointer p, .int .i64 rk, .int .i64 c] w fun v w' => v = rcb none ∧ Mod none_ w w' := by
  refine posted_Posted_At_calls ?_
  unfold posted_Posted_At_F
  refine al_k (cs := zRc.enc.toArray) zRc_z rfl _ fun w1 hb1 hm1 hz1 => ?_
  refine CK_st Try.func42 rfl rfl (place_nil (h.calm hm1) rk c) ?_
  rintro _ w2 ⟨rfl, hm2⟩
  rw [BK_lss, show decide ((-1 : Int) < 0) = true from rfl]
  refine condT ?_
  rw [build_ok (cs := zRc.enc.toArray) (by kernel_rfl)]
  refine stS (cs := zRc.enc.toArray) (old := zRc.enc.toArray) rfl rfl (by rw [iRc]; rfl) rfl (Rc.enc_one _) (hm2.blk hb1 id) fun w3 hb3 hm3 hz3 => ?_
  exact ⟨_, res_ld (run_ldB Try.underlying24 rfl (by rw [iRc]; rfl) hb3), rfl, (hm1.trans hm2).fresh hm3 (Nat.le_refl _)⟩
theorem Post_nil (h : NilP w p) (r : Rc) : Rt Try.prog 14 #[.pointer p, .agg r.enc.toArray] w fun v w' => v = .int .i64 1 ∧ Mod none_ w w' := by
  refine posted_Posted_Post_calls ?_
  unfold posted_Posted_Post_F
  refine box_k (cs := r.enc.toArray) rfl fun w1 hb1 hm1 hz1 => ?_
  rw [BK_eqlP uPd]
  rcases h.calm hm1 with rfl | ⟨b, rfl, hb⟩
  · simp only [Option.isNone_none, ↓VG_u, ↓UG_u, ↓MG_u, ↓NG_u, ↓PG_u, ↓BG_u, ↓CG_u, ↓IG_u, ↓VGtt, ↓VGtf, ↓VGft, ↓VGff, ↓UGtt, ↓UGtf, ↓UGft, ↓UGff, ↓MGtt, ↓MGtf, ↓MGft, ↓MGff, ↓NGtt, ↓NGtf, ↓NGft, ↓NGff, ↓PGtt, ↓PGtf, ↓PGft, ↓PGff, ↓BGtt, ↓BGtf, ↓BGft, ↓BGff, ↓CGtt, ↓CGtf, ↓CGft, ↓CGff, ↓IGtt, ↓IGtf, ↓IGft, ↓IGff, ↓PKt, ↓PKf, ↓CDt, ↓CDf, ↓NOTt, ↓NOTf, ↓NK_ptr]
    exact ⟨by trivial, hm1⟩
  · simp only [Option.isNone_some, ↓VG_u, ↓UG_u, ↓MG_u, ↓NG_u, ↓PG_u, ↓BG_u, ↓CG_u, ↓IG_u, ↓VGtt, ↓VGtf, ↓VGft, ↓VGff, ↓UGtt, ↓UGtf, ↓UGft, ↓UGff, ↓MGtt, ↓MGtf, ↓MGft, ↓MGff, ↓NGtt, ↓NGtf, ↓NGft, ↓NGff, ↓PGtt, ↓PGtf, ↓PGft, ↓PGff, ↓BGtt, ↓BGtf, ↓BGft, ↓BGff, ↓CGtt, ↓CGtf, ↓CGft, ↓CGff, ↓IGtt, ↓IGtf, ↓IGft, ↓IGff, ↓PKt, ↓PKf, ↓CDt, ↓CDf, ↓NOTt, ↓NOTf, ↓NK_ptr]
    rw [(bad_made hb).e]
    try simp only [↓VG_u, ↓UG_u, ↓MG_u, ↓NG_u, ↓PG_u, ↓BG_u, ↓CG_u, ↓IG_u, ↓VGtt, ↓VGtf, ↓VGft, ↓VGff, ↓UGtt, ↓UGtf, ↓UGft, ↓UGff, ↓MGtt, ↓MGtf, ↓MGft, ↓MGff, ↓NGtt, ↓NGtf, ↓NGft, ↓NGff, ↓PGtt, ↓PGtf, ↓PGft, ↓PGff, ↓BGtt, ↓BGtf, ↓BGft, ↓BGff, ↓CGtt, ↓CGtf, ↓CGft, ↓CGff, ↓IGtt, ↓IGtf, ↓IGft, ↓IGff, ↓PKt, ↓PKf, ↓CDt, ↓CDf, ↓NOTt, ↓NOTf, ↓NK_ptr]
    exact ⟨by trivial, hm1⟩
theorem Match_nil (h : NilP w p) (q : Value) (rk c f s : Int) : Rt Try.prog 17 #[.pointer p, q, .int .i64 rk, .int .i64 c, .int .i64 f, .int .i64 s] w fun v w' => v = .int .i64 1 ∧ Mod none_ w w' := by
  refine posted_Posted_Match_calls ?_
  unfold posted_Posted_Match_F
  refine box_k (cs := #[.int .i64 f]) rfl fun w1 hb1 hm1 hz1 => ?_
  refine box_k (cs := #[.int .i64 s]) rfl fun w2 hb2 hm2 hz2 => ?_
  have hm12 := hm1.trans hm2
  rw [BK_eqlP uPd]
  rcases h.calm hm12 with rfl | ⟨b, rfl, hb⟩
  · simp only [Option.isNone_none, ↓VG_u, ↓UG_u, ↓MG_u, ↓NG_u, ↓PG_u, ↓BG_u, ↓CG_u, ↓IG_u, ↓VGtt, ↓VGtf, ↓VGft, ↓VGff, ↓UGtt, ↓UGtf, ↓UGft, ↓UGff, ↓MGtt, ↓MGtf, ↓MGft, ↓MGff, ↓NGtt, ↓NGtf, ↓NGft, ↓NGff, ↓PGtt, ↓PGtf, ↓PGft, ↓PGff, ↓BGtt, ↓BGtf, ↓BGft, ↓BGff, ↓CGtt, ↓CGtf, ↓CGft, ↓CGff, ↓IGtt, ↓IGtf, ↓IGft, ↓IGff, ↓PKt, ↓PKf, ↓CDt, ↓CDf, ↓NOTt, ↓NOTf, ↓NK_ptr]
    exact ⟨by trivial, hm12⟩
  · simp only [Option.isNone_some, ↓VG_u, ↓UG_u, ↓MG_u, ↓NG_u, ↓PG_u, ↓BG_u, ↓CG_u, ↓IG_u, ↓VGtt, ↓VGtf, ↓VGft, ↓VGff, ↓UGtt, ↓UGtf, ↓UGft, ↓UGff, ↓MGtt, ↓MGtf, ↓MGft, ↓MGff, ↓NGtt, ↓NGtf, ↓NGft, ↓NGff, ↓PGtt, ↓PGtf, ↓PGft, ↓PGff, ↓BGtt, ↓BGtf, ↓BGft, ↓BGff, ↓CGtt, ↓CGtf, ↓CGft, ↓CGff, ↓IGtt, ↓IGtf, ↓IGft, ↓IGff, ↓PKt, ↓PKf, ↓CDt, ↓CDf, ↓NOTt, ↓NOTf, ↓NK_ptr]
    rw [(bad_made hb).e]
    try simp only [↓VG_u, ↓UG_u, ↓MG_u, ↓NG_u, ↓PG_u, ↓BG_u, ↓CG_u, ↓IG_u, ↓VGtt, ↓VGtf, ↓VGft, ↓VGff, ↓UGtt, ↓UGtf, ↓UGft, ↓UGff, ↓MGtt, ↓MGtf, ↓MGft, ↓MGff, ↓NGtt, ↓NGtf, ↓NGft, ↓NGff, ↓PGtt, ↓PGtf, ↓PGft, ↓PGff, ↓BGtt, ↓BGtf, ↓BGft, ↓BGff, ↓CGtt, ↓CGtf, ↓CGft, ↓CGff, ↓IGtt, ↓IGtf, ↓IGft, ↓IGff, ↓PKt, ↓PKf, ↓CDt, ↓CDf, ↓NOTt, ↓NOTf, ↓NK_ptr]
    exact ⟨by trivial, hm12⟩
theorem Waiting_nil (h : NilP w p) (rk : Int) : Rt Try.prog 18 #[.pointer p, .int .i64 rk] w fun v w' => v = nilS ∧ Mod none_ w w' := by
  refine posted_Posted_Waiting_calls ?_
  unfold posted_Posted_Waiting_F
  refine CK_st Try.func40 rfl rfl (of_nil h rk) ?_
  rintro _ w1 ⟨rfl, rfl⟩
  refine CK_st Try.func46 rfl rfl (kept_nil w1) ?_
  rintro _ w2 ⟨rfl, hm⟩
  exact ⟨rfl, hm⟩
theorem May_nil (h : NilP w p) (q : Value) (rk c : Int) : Rt Try.prog 16 #[.pointer p, q, .int .i64 rk, .int .i64 c] w fun v w' => v = nilS ∧ Mod none_ w w' := by
  refine posted_Posted_May_calls ?_
  unfold posted_Posted_May_F
  refine CK_st Try.func42 rfl rfl (place_nil h rk c) ?_
  rintro _ w1 ⟨rfl, hm1⟩
  rw [BK_lss, show decide ((-1 : Int) < 0) = true from rfl]
  refine condT ?_
  exact ⟨rfl, hm1⟩
theorem Probe_nil (h : NilP w p) (q : Value) (r : Rc) : Rt Try.prog 13 #[.pointer p, q, .agg r.enc.toArray] w fun v w' => v = nilS ∧ Mod none_ w w' := by
  refine posted_Posted_Probe_calls ?_
  unfold posted_Posted_Probe_F
  refine box_k (cs := r.enc.toArray) rfl fun w1 hb1 hm1 hz1 => ?_
  rw [BK_eqlP uPd]
  rcases h.calm hm1 with rfl | ⟨b, rfl, hb⟩
  · simp only [Option.isNone_none, ↓VG_u, ↓UG_u, ↓MG_u, ↓NG_u, ↓PG_u, ↓BG_u, ↓CG_u, ↓IG_u, ↓VGtt, ↓VGtf, ↓VGft, ↓VGff, ↓UGtt, ↓UGtf, ↓UGft, ↓UGff, ↓MGtt, ↓MGtf, ↓MGft, ↓MGff, ↓NGtt, ↓NGtf, ↓NGft, ↓NGff, ↓PGtt, ↓PGtf, ↓PGft, ↓PGff, ↓BGtt, ↓BGtf, ↓BGft, ↓BGff, ↓CGtt, ↓CGtf, ↓CGft, ↓CGff, ↓IGtt, ↓IGtf, ↓IGft, ↓IGff, ↓PKt, ↓PKf, ↓CDt, ↓CDf, ↓NOTt, ↓NOTf, ↓NK_ptr]
    exact ⟨by trivial, hm1⟩
  · simp only [Option.isNone_some, ↓VG_u, ↓UG_u, ↓MG_u, ↓NG_u, ↓PG_u, ↓BG_u, ↓CG_u, ↓IG_u, ↓VGtt, ↓VGtf, ↓VGft, ↓VGff, ↓UGtt, ↓UGtf, ↓UGft, ↓UGff, ↓MGtt, ↓MGtf, ↓MGft, ↓MGff, ↓NGtt, ↓NGtf, ↓NGft, ↓NGff, ↓PGtt, ↓PGtf, ↓PGft, ↓PGff, ↓BGtt, ↓BGtf, ↓BGft, ↓BGff, ↓CGtt, ↓CGtf, ↓CGft, ↓CGff, ↓IGtt, ↓IGtf, ↓IGft, ↓IGff, ↓PKt, ↓PKf, ↓CDt, ↓CDf, ↓NOTt, ↓NOTf, ↓NK_ptr]
    rw [(bad_made hb).e]
    try simp only [↓VG_u, ↓UG_u, ↓MG_u, ↓NG_u, ↓PG_u, ↓BG_u, ↓CG_u, ↓IG_u, ↓VGtt, ↓VGtf, ↓VGft, ↓VGff, ↓UGtt, ↓UGtf, ↓UGft, ↓UGff, ↓MGtt, ↓MGtf, ↓MGft, ↓MGff, ↓NGtt, ↓NGtf, ↓NGft, ↓NGff, ↓PGtt, ↓PGtf, ↓PGft, ↓PGff, ↓BGtt, ↓BGtf, ↓BGft, ↓BGff, ↓CGtt, ↓CGtf, ↓CGft, ↓CGff, ↓IGtt, ↓IGtf, ↓IGft, ↓IGff, ↓PKt, ↓PKf, ↓CDt, ↓CDf, ↓NOTt, ↓NOTf, ↓NK_ptr]
    exact ⟨by trivial, hm1⟩
end
theorem noneQ_nil (w : World) : Rt Try.prog 49 #[.pointer none] w fun v w' => v = .bool true ∧ w' = w := by
  refine queue_Queue_none_calls ?_
  unfold queue_Queue_none_F
  rw [BK_eqlP uQ]
  simp only [Option.isNone_none, ↓VG_u, ↓UG_u, ↓MG_u, ↓NG_u, ↓PG_u, ↓BG_u, ↓CG_u, ↓IG_u, ↓VGtt, ↓VGtf, ↓VGft, ↓VGff, ↓UGtt, ↓UGtf, ↓UGft, ↓UGff, ↓MGtt, ↓MGtf, ↓MGft, ↓MGff, ↓NGtt, ↓NGtf, ↓NGft, ↓NGff, ↓PGtt, ↓PGtf, ↓PGft, ↓PGff, ↓BGtt, ↓BGtf, ↓BGft, ↓BGff, ↓CGtt, ↓CGtf, ↓CGft, ↓CGff, ↓IGtt, ↓IGtf, ↓IGft, ↓IGff, ↓PKt, ↓PKf, ↓CDt, ↓CDf, ↓NOTt, ↓NOTf, ↓NK_ptr]
  exact ⟨by trivial, by trivial⟩
theorem SendersQ_nil (w : World) (k t : Value) : Rt Try.prog 62 #[.pointer none, k, t] w fun v w' => v = nilS ∧ w' = w := by
  refine queue_Queue_Senders_calls ?_
  unfold queue_Queue_Senders_F
  refine CK_st Try.func49 rfl rfl (noneQ_nil w) ?_
  rintro _ w1 ⟨rfl, rfl⟩
  exact condT ⟨rfl, rfl⟩
theorem freeN_ok {w : World} {ahead : List Rc} {va : Value} (r : Rc) (ha : RcRow w va ahead) (hal : ahead.length ≤ 1000000) : Rt Try.prog 39 #[.pointer none, .agg r.enc.toArray, va] w fun v w' => v = nilS ∧ Mod none_ w w' := by
  refine posted_free_calls ?_
  unfold posted_free_F
  refine box_k (cs := r.enc.toArray) rfl fun w1 hb1 hm1 hz1 => ?_
  refine CK_st Try.func46 rfl rfl (kept_ok (ha.calm hm1) hal) ?_
  rintro vw w2 ⟨hO2, hm2⟩
  have hb2 := hm2.blk hb1 id
  have g0 : FO Try.prog w2 tRc 0 0 ⟨w.heap.size, 0, none⟩ 9 (strV r.key) := FO.blk hb2 (by kernel_rfl) vS rfl rfl
  have g1 : FO Try.prog w2 tRc 1 1 ⟨w.heap.size, 0, none⟩ 3 (.int .i64 r.rank) := FO.blk hb2 (by kernel_rfl) vI rfl rfl
  rw [g0.e, g1.e]
  have hm12 := hm1.trans hm2
  refine CK_st Try.func62 rfl rfl (SendersQ_nil w2 _ _) ?_
  rintro _ w2 ⟨rfl, rfl⟩
  rw [len_sl vIs]
  refine W_loop posted_free_L0_ok (fun ρ w' => ρ 23 = .int .i64 0 ∧ ρ 22 = .int .i64 0 ∧ ρ 7 = nilS ∧ w' = w2) (fun ρ _ => 0) ⟨rfl, rfl, rfl, rfl⟩ ?_
  rintro ρ w4 ⟨e23, e22, e7, rfl⟩
  rw [posted_free_L0_eq]; unfold posted_free_L0_F
  rw [e23, e22, BK_lss, show decide ((0 : Int) < 0) = false from rfl]
  refine condF ?_
  rw [sq_x, bk_x, sq_n, posted_free_R1_eq]; unfold posted_free_R1_F
  have key : ∀ ρ0 : Sl, ρ0 7 = nilS → retK Try.prog [ResultVar.tmp 6] (fun v w' => v = nilS ∧ Mod none_ w w') .ret (up (up ρ0 61 (ρ0 7)) 6 (ρ0 7)) w4 := by
    intro ρ0 z
    show ρ0 7 = nilS ∧ _
    exact ⟨z, hm12⟩
  exact key _ (by first | exact e7 | rfl)
section
variable {w : World} {p : Nat} {R : Rks} {vs : List Value}
theorem MayN_ok (h : PAt w p R vs) (hlen : ∀ i, (R i).length ≤ 1000000) (rk c : Int) : Rt Try.prog 16 #[.pointer (some ⟨p, 0, none⟩), .pointer none, .int .i64 rk, .int .i64 c] w fun v w' => v = nilS ∧ Mod none_ w w' := by
  refine posted_Posted_May_calls ?_
  unfold posted_Posted_May_F
  refine CK_st Try.func42 rfl rfl (place_ok' h hlen rk c) ?_
  rintro _ w1 ⟨rfl, hm1⟩
  rw [BK_lss]
  have h1 := h.calm hm1
  rcases idxR_find (l := rowP R rk) (q := isC c) with ⟨hn, hf⟩ | ⟨j, r, hj, hjr, hf, hfi⟩
  · rw [decide_eq_true hn]
    refine condT ?_
    exact ⟨rfl, hm1⟩
  · rw [hj, decide_eq_false (by omega)]
    refine condF ?_
    refine CK_st Try.func40 rfl rfl (of_ok' h1 rk) ?_
    rintro v w1 ⟨rfl, hrow, hv⟩
    have hrl := row_R hlen rk
    have hjl := (List.getElem?_eq_some_iff.1 hjr).1
    generalize hL0 : rowP R rk = row at *
    refine ixRcA hrow hjr rfl fun a ha => ?_
    rw [fo (show fieldOff Try.prog tRc 6 = some 6 by kernel_rfl)]
    refine ld1 vB rfl (ha 6 (.bool r.done) rfl) ?_
    cases hd : r.done with
    | true => exact condT ⟨rfl, hm1⟩
    | false =>
      refine condF ?_
      refine posted_Posted_May_R0_tail (D := []) ?_
      have hmd : Mod none_ w1 { w1 with drawn := w1.drawn + 1 } := (Mod.refl _ w1).drawn _
      generalize ({ w1 with drawn := w1.drawn + 1 } : World) = wd at *
      have hrd := hrow.calm hmd
      have key : ∀ (ρ0 : Sl) (K : Exit → Sl → World → Prop), ρ0 10 = v → ρ0 9 = .int .i64 (j : Int) → ρ0 1 = .pointer none → (∀ (ρ' : Sl) (w' : World), ρ' 8 = nilS → Mod none_ wd w' → K .normal ρ' w') → posted_Posted_May_R0_T K ρ0 wd := by
        intro ρ0 K q10 q9 q1 hK
        unfold posted_Posted_May_R0_T
        rw [q10, q9, q1]
        obtain ⟨A, c, es, hnc⟩ := reads_cap hrd
        intro C
        have hat : ∃ a, A = some a ∧ ∀ k u, r.enc[k]? = some u → wd.cell? ((a.add (j * (8 + 1))).add k) = some u := by
          obtain ⟨_, A', c', es', _, hr⟩ := hrd
          rw [es] at es'
          cases es'
          have h0 : (row.flatMap Rc.enc)[j * (8 + 1) + 0]? = some (strV r.key) := by rw [fl_get (k := 8 + 1) Rc.enc_len hjr (by decide)]; rfl
          obtain ⟨a, ha', _⟩ := hr _ _ h0
          refine ⟨a, ha', fun k u hu => ?_⟩
          have hk : k < 8 + 1 := (List.getElem?_eq_some_iff.1 hu).1
          obtain ⟨a2, ha2, hc2⟩ := hr (j * (8 + 1) + k) u (by rw [fl_get (k := 8 + 1) Rc.enc_len hjr hk]; exact hu)
          rw [ha'] at ha2
          cases ha2
          rw [add_add]
          exact hc2
        obtain ⟨a, rfl, hcl⟩ := hat
        rw [es]
        refine QV_of (fun w' _ => run_ixa vRcS cRc (by omega) (by omega) w') ?_
        refine QV_of (v := .agg r.enc.toArray) (fun w' hw => ?_) ?_
        · cases (show w' = wd from hw)
          rw [show ((j : Int)).toNat = j by omega]
          exact run_ldA Try.underlying24 rfl (by rw [iRc]; rfl) hcl
        refine QV_of (fun w' _ => run_cut vRcS cRc (by omega) (by omega) (by omega) w') ?_
        have hcut : RcRow wd (sliced (some a) 0 (j : Int).toNat c (8 + 1)) (row.take j) := by
          have hlj : (row.take j).length = j := by rw [List.length_take]; omega
          unfold RcRow
          rw [hlj, show ((j : Int)).toNat = j by omega]
          have := reads_cut (m := j) (es ▸ hrd) (by omega) (8 + 1)
          rw [fl_take (k := 8 + 1) Rc.enc_len] at this
          exact this
        refine CK_st Try.func39 rfl rfl (freeN_ok r hcut (by rw [List.length_take]; omega)) ?_
        rintro _ w3 ⟨rfl, hr3⟩
        exact hK _ w3 rfl hr3
      refine key _ _ rfl rfl rfl ?_
      intro ρ' w' q8 hr
      rw [sq_n, posted_Posted_May_R1_eq]; unfold posted_Posted_May_R1_F
      show ρ' 8 = nilS ∧ _
      exact ⟨q8, (hm1.trans hmd).trans hr⟩
theorem ProbeN_ok (h : PAt w p R vs) (hlen : ∀ i, (R i).length ≤ 1000000) (r : Rc) : Rt Try.prog 13 #[.pointer (some ⟨p, 0, none⟩), .pointer none, .agg r.enc.toArray] w fun v w' => v = nilS ∧ Mod none_ w w' := by
  refine posted_Posted_Probe_calls ?_
  unfold posted_Posted_Probe_F
  refine box_k (cs := r.enc.toArray) rfl fun w1 hb1 hm1 hz1 => ?_
  have h1 := h.calm hm1
  rw [BK_eqlP uPd]
  simp only [Option.isNone_some, ↓VG_u, ↓UG_u, ↓MG_u, ↓NG_u, ↓PG_u, ↓BG_u, ↓CG_u, ↓IG_u, ↓VGtt, ↓VGtf, ↓VGft, ↓VGff, ↓UGtt, ↓UGtf, ↓UGft, ↓UGff, ↓MGtt, ↓MGtf, ↓MGft, ↓MGff, ↓NGtt, ↓NGtf, ↓NGft, ↓NGff, ↓PGtt, ↓PGtf, ↓PGft, ↓PGff, ↓BGtt, ↓BGtf, ↓BGft, ↓BGff, ↓CGtt, ↓CGtf, ↓CGft, ↓CGff, ↓IGtt, ↓IGtf, ↓IGft, ↓IGff, ↓PKt, ↓PKf, ↓CDt, ↓CDf, ↓NOTt, ↓NOTf, ↓NK_ptr]
  rw [(f_made h1).e]
  try simp only [↓VG_u, ↓UG_u, ↓MG_u, ↓NG_u, ↓PG_u, ↓BG_u, ↓CG_u, ↓IG_u, ↓VGtt, ↓VGtf, ↓VGft, ↓VGff, ↓UGtt, ↓UGtf, ↓UGft, ↓UGff, ↓MGtt, ↓MGtf, ↓MGft, ↓MGff, ↓NGtt, ↓NGtf, ↓NGft, ↓NGff, ↓PGtt, ↓PGtf, ↓PGft, ↓PGff, ↓BGtt, ↓BGtf, ↓BGft, ↓BGff, ↓CGtt, ↓CGtf, ↓CGft, ↓CGff, ↓IGtt, ↓IGtf, ↓IGft, ↓IGff, ↓PKt, ↓PKf, ↓CDt, ↓CDf, ↓NOTt, ↓NOTf, ↓NK_ptr]
  have hmd : Mod none_ w1 { w1 with drawn := w1.drawn + 1 } := (Mod.refl _ w1).drawn _
  refine posted_Posted_Probe_R0_held (D := []) (fun w' => Mod none_ w1 w') hmd ?_
  generalize ({ w1 with drawn := w1.drawn + 1 } : World) = wd at *
  have key : ∀ (ρ0 : Sl) (K : Exit → Sl → World → Prop), ρ0 5 = .pointer (some ⟨w.heap.size, 0, none⟩) → ρ0 0 = .pointer (some ⟨p, 0, none⟩) → ρ0 1 = .pointer none → (∀ (ρ' : Sl) (w' : World), ρ' 6 = nilS → Mod none_ wd w' → K .normal ρ' w') → posted_Posted_Probe_R0_H (fun w' => Mod none_ w1 w') K ρ0 wd := by
    intro ρ0 K q5 q0 q1 hK
    unfold posted_Posted_Probe_R0_H
    rw [q5, q0, q1]
    refine HV_of (fun w' hw => run_ldB Try.underlying24 rfl (by rw [iRc]; rfl) (hw.blk hb1 id)) ?_
    refine HV_of (fun w _ => run_fo (show fieldOff Try.prog tRc 1 = some 1 by kernel_rfl) _ w) ?_
    refine HV_of (v := .int .i64 r.rank) (fun w' hw => run_ld1 vI rfl (by rw [add_pl, cell_blk (hw.blk hb1 id)]; rfl)) ?_
    refine CK_st Try.func40 rfl rfl (of_ok' (h1.calm hmd) r.rank) ?_
    rintro v wd ⟨rfl, hrow, hv⟩
    refine ⟨hmd, ?_⟩
    refine CK_st Try.func39 rfl rfl (freeN_ok r hrow (row_R hlen _)) ?_
    rintro _ w3 ⟨rfl, hr3⟩
    exact ⟨hmd.trans hr3, hK _ w3 rfl hr3⟩
  refine key _ _ rfl rfl rfl ?_
  intro ρ' w' q6 hr
  rw [sq_n, posted_Posted_Probe_R1_eq]; unfold posted_Posted_Probe_R1_F
  show ρ' 6 = nilS ∧ _
  exact ⟨q6, (hm1.trans hmd).trans hr⟩
theorem MatchN_ok (h : PAt w p R vs) (hlen : ∀ i, (R i).length ≤ 1000000) (rk c f s : Int) : Rt Try.prog 17 #[.pointer (some ⟨p, 0, none⟩), .pointer none, .int .i64 rk, .int .i64 c, .int .i64 f, .int .i64 s] w fun v w' => v = .int .i64 2 ∧ Mod none_ w w' := by
  refine posted_Posted_Match_calls ?_
  unfold posted_Posted_Match_F
  refine box_k (cs := #[.int .i64 f]) rfl fun w1 hb1 hm1 hz1 => ?_
  refine box_k (cs := #[.int .i64 s]) rfl fun w2 hb2 hm2 hz2 => ?_
  have hm12 := hm1.trans hm2
  have h2 := h.calm hm12
  rw [BK_eqlP uPd]
  simp only [Option.isNone_some, ↓VG_u, ↓UG_u, ↓MG_u, ↓NG_u, ↓PG_u, ↓BG_u, ↓CG_u, ↓IG_u, ↓VGtt, ↓VGtf, ↓VGft, ↓VGff, ↓UGtt, ↓UGtf, ↓UGft, ↓UGff, ↓MGtt, ↓MGtf, ↓MGft, ↓MGff, ↓NGtt, ↓NGtf, ↓NGft, ↓NGff, ↓PGtt, ↓PGtf, ↓PGft, ↓PGff, ↓BGtt, ↓BGtf, ↓BGft, ↓BGff, ↓CGtt, ↓CGtf, ↓CGft, ↓CGff, ↓IGtt, ↓IGtf, ↓IGft, ↓IGff, ↓PKt, ↓PKf, ↓CDt, ↓CDf, ↓NOTt, ↓NOTf, ↓NK_ptr]
  rw [(f_made h2).e]
  try simp only [↓VG_u, ↓UG_u, ↓MG_u, ↓NG_u, ↓PG_u, ↓BG_u, ↓CG_u, ↓IG_u, ↓VGtt, ↓VGtf, ↓VGft, ↓VGff, ↓UGtt, ↓UGtf, ↓UGft, ↓UGff, ↓MGtt, ↓MGtf, ↓MGft, ↓MGff, ↓NGtt, ↓NGtf, ↓NGft, ↓NGff, ↓PGtt, ↓PGtf, ↓PGft, ↓PGff, ↓BGtt, ↓BGtf, ↓BGft, ↓BGff, ↓CGtt, ↓CGtf, ↓CGft, ↓CGff, ↓IGtt, ↓IGtf, ↓IGft, ↓IGff, ↓PKt, ↓PKf, ↓CDt, ↓CDf, ↓NOTt, ↓NOTf, ↓NK_ptr]
  rw [mkFunc]
  refine CK_st Try.func16 rfl rfl (MayN_ok h2 hlen rk c) ?_
  rintro _ w3 ⟨rfl, hm3⟩
  refine CK_st Try.func44 rfl rfl (ContainsFuncMs_ok (l := []) (p := Ms.isAt f s) (reads_nil _ _) (Nat.zero_le _) (fun a ha => by cases ha)) ?_
  rintro _ w4 ⟨rfl, hm4⟩
  simp only [List.any_nil, ↓VG_u, ↓UG_u, ↓MG_u, ↓NG_u, ↓PG_u, ↓BG_u, ↓CG_u, ↓IG_u, ↓VGtt, ↓VGtf, ↓VGft, ↓VGff, ↓UGtt, ↓UGtf, ↓UGft, ↓UGff, ↓MGtt, ↓MGtf, ↓MGft, ↓MGff, ↓NGtt, ↓NGtf, ↓NGft, ↓NGff, ↓PGtt, ↓PGtf, ↓PGft, ↓PGff, ↓BGtt, ↓BGtf, ↓BGft, ↓BGff, ↓CGtt, ↓CGtf, ↓CGft, ↓CGff, ↓IGtt, ↓IGtf, ↓IGft, ↓IGff, ↓PKt, ↓PKf, ↓CDt, ↓CDf, ↓NOTt, ↓NOTf, ↓NK_ptr]
  rw [posted_Posted_Match_R0_eq]; unfold posted_Posted_Match_R0_F
  refine caseC (fun z => ?_) (fun z => ?_)
  · exact ⟨rfl, hm12.trans (hm3.trans hm4)⟩
  · cases z
end
theorem CopyP_nil (w : World) : Rt Try.prog 28 #[.pointer none] w fun v w' => v = .pointer none ∧ w' = w := by
  refine posted_Posted_Copy_calls ?_
  unfold posted_Posted_Copy_F
  rw [BK_eqlP uPd]
  simp only [Option.isNone_none]
  exact condT ⟨by trivial, by trivial⟩
end Go.Proofs.Ytmnkedgmpbcicaa.Que
set_option linter.unusedVariables false
set_option linter.unusedSimpArgs false
set_option maxRecDepth 8000
namespace Go.Proofs.Ytmnkedgmpbcicaa.Que
open Go Go.X Go.RowKit Go.Proofs.Ytmnkedgmpbcicaa.XF Go.Proofs.Ytmnkedgmpbcicaa.XG Go.Proofs.Ytmnkedgmpbcicaa.XK
theorem up_lz {ρ : Sl} {d : Nat} {v : Value} {k n : Nat} (hk : k < n) (hd : n ≤ d) : up ρ d v k = ρ k := by rw [up_at, if_neg (by omega)]
abbrev tPs : TypeId := 62
theorem vPs : Try.prog.underlying tPs = some (.slice 28) := by kernel_rfl
section
variable {w w0 : World} {a : Bc} {b1 : Nat} {p : Option Addr} {qa : Value}
theorem act_cells (hb : w.heap[b1]? = some (.cells a.enc.toArray tBc (0, 0))) : ∀ w', Mod none_ w w' → ∀ (o : Nat) (u : Value), a.enc[o]? = some u → w'.cell? ⟨b1, o, none⟩ = some u := fun w' hm o u hu => by
  rw [cell_blk (hm.blk hb id)]
  simpa using hu
theorem nil_R2 {K : Exit → Sl → World → Prop} {ρ : Sl} (hb : w.heap[b1]? = some (.cells a.enc.toArray tBc (0, 0))) (h : NilP w p) (e9 : ρ 9 = .bool false) (e7 : ρ 7 = .pointer p) (e1 : ρ 1 = .pointer (some ⟨b1, 0, none⟩)) (e4 : ρ 4 = qa)
    (hk : ∀ (ρ' : Sl) (w' : World), ρ' 96 = .bool false → (∀ k, k < 44 → ρ' k = ρ k) → Mod none_ w w' → K .normal ρ' w') : W fn_ Try.prog 140 dispatcherlaw14_PostedNil_R2 K ρ w := by
  refine dispatcherlaw14_PostedNil_R2_quiet (D := []) (fun w' => Mod none_ w w') ((Mod.refl _ w).drawn _) ?_
  unfold dispatcherlaw14_PostedNil_R2_Q
  rw [e9, e7, e1, e4]
  have hc := act_cells hb
  have ldR : ∀ w', Mod none_ w w' → (Instr.loadAt tRc (.pointer (some ⟨b1, 9, none⟩))).run Try.prog w' = .ok (.agg a.r.enc.toArray) w' := fun w' hm => run_ldA Try.underlying24 rfl (by rw [iRc]; rfl) fun j u hu => by
    rw [add_pl]
    refine hc w' hm _ u ?_
    unfold Bc.enc
    rw [show 9 + j = (8 + j) + 1 by omega, List.getElem?_cons_succ, List.getElem?_append_right (by rw [Ms.enc_len]; omega), Ms.enc_len, show 8 + j - 8 = j by omega]
    exact hu
  have fR : ∀ w' : World, (Instr.fieldAt tBc (.pointer (some ⟨b1, 0, none⟩)) 2).run Try.prog w' = .ok (.pointer (some ⟨b1, 9, none⟩)) w' := fun w' => by rw [run_fo (show fieldOff Try.prog tBc 2 = some 9 by kernel_rfl), add_pl]
  have fM : ∀ w' : World, (Instr.fieldAt tBc (.pointer (some ⟨b1, 0, none⟩)) 1).run Try.prog w' = .ok (.pointer (some ⟨b1, 1, none⟩)) w' := fun w' => by rw [run_fo (show fieldOff Try.prog tBc 1 = some 1 by kernel_rfl), add_pl]
  have rk : ∀ w' : World, (Instr.fieldAt tRc (.pointer (some ⟨b1, 9, none⟩)) 1).run Try.prog w' = .ok (.pointer (some ⟨b1, 10, none⟩)) w' := fun w' => by rw [run_fo (show fieldOff Try.prog tRc 1 = some 1 by kernel_rfl), add_pl]
  have cl : ∀ w' : World, (Instr.fieldAt tRc (.pointer (some ⟨b1, 9, none⟩)) 2).run Try.prog w' = .ok (.pointer (some ⟨b1, 11, none⟩)) w' := fun w' => by rw [run_fo (show fieldOff Try.prog tRc 2 = some 2 by kernel_rfl), add_pl]
  have mf : ∀ w' : World, (Instr.fieldAt tMs (.pointer (some ⟨b1, 1, none⟩)) 1).run Try.prog w' = .ok (.pointer (some ⟨b1, 2, none⟩)) w' := fun w' => by rw [run_fo (show fieldOff Try.prog tMs 1 = some 1 by kernel_rfl), add_pl]
  have mc : ∀ w' : World, (Instr.fieldAt tMs (.pointer (some ⟨b1, 1, none⟩)) 3).run Try.prog w' = .ok (.pointer (some ⟨b1, 4, none⟩)) w' := fun w' => by rw [run_fo (show fieldOff Try.prog tMs 3 = some 3 by kernel_rfl), add_pl]
  have l10 : ∀ w', Mod none_ w w' → (Instr.loadAt 3 (.pointer (some ⟨b1, 10, none⟩))).run Try.prog w' = .ok (.int .i64 a.r.rank) w' := fun w' hm => run_ld1 vI rfl (hc w' hm 10 _ rfl)
  have l11 : ∀ w', Mod none_ w w' → (Instr.loadAt 3 (.pointer (some ⟨b1, 11, none⟩))).run Try.prog w' = .ok (.int .i64 a.r.call) w' := fun w' hm => run_ld1 vI rfl (hc w' hm 11 _ rfl)
  have l2 : ∀ w', Mod none_ w w' → (Instr.loadAt 3 (.pointer (some ⟨b1, 2, none⟩))).run Try.prog w' = .ok (.int .i64 a.m.frm) w' := fun w' hm => run_ld1 vI rfl (hc w' hm 2 _ rfl)
  have l4 : ∀ w', Mod none_ w w' → (Instr.loadAt 3 (.pointer (some ⟨b1, 4, none⟩))).run Try.prog w' = .ok (.int .i64 a.m.call) w' := fun w' hm => run_ld1 vI rfl (hc w' hm 4 _ rfl)
  rw [QG_b, if_pos rfl]
  refine QM ?_
  rw [QG_b, if_pos rfl]
  refine QV_of (fun w' _ => fR w') ?_
  rw [QG_b, if_pos rfl]
  refine QV_of (fun w' hw => ldR w' hw) ?_
  rw [QG_b, if_pos rfl]
  refine QC_rt Try.func14 rfl rfl (v := .int .i64 1) (fun w' hw => Post_nil (h.calm hw) a.r) (fun w' u w'' hw q => ⟨q.1, hw.trans q.2⟩) ?_
  rw [QG_b, if_pos rfl]
  refine Qneq ?_
  refine QP_of ?_
  rw [if_neg (by decide), show ((1 : Int) != 1) = false from rfl, QG_b, if_pos rfl]
  refine QM ?_
  rw [QG_b, if_pos rfl]
  refine QM ?_
  rw [QG_b, if_pos rfl]
  refine QV_of (fun w' _ => fR w') ?_
  rw [QG_b, if_pos rfl]
  refine QV_of (fun w' _ => rk w') ?_
  rw [QG_b, if_pos rfl]
  refine QV_of (fun w' hw => l10 w' hw) ?_
  rw [QG_b, if_pos rfl]
  refine QV_of (fun w' _ => fR w') ?_
  rw [QG_b, if_pos rfl]
  refine QV_of (fun w' _ => cl w') ?_
  rw [QG_b, if_pos rfl]
  refine QV_of (fun w' hw => l11 w' hw) ?_
  rw [QG_b, if_pos rfl]
  refine QV_of (fun w' _ => fM w') ?_
  rw [QG_b, if_pos rfl]
  refine QV_of (fun w' _ => mf w') ?_
  rw [QG_b, if_pos rfl]
  refine QV_of (fun w' hw => l2 w' hw) ?_
  rw [QG_b, if_pos rfl]
  refine QV_of (fun w' _ => fM w') ?_
  rw [QG_b, if_pos rfl]
  refine QV_of (fun w' _ => mc w') ?_
  rw [QG_b, if_pos rfl]
  refine QV_of (fun w' hw => l4 w' hw) ?_
  rw [QG_b, if_pos rfl]
  refine QC_rt Try.func17 rfl rfl (v := .int .i64 1) (fun w' hw => Match_nil (h.calm hw) qa a.r.rank a.r.call a.m.frm a.m.call) (fun w' u w'' hw q => ⟨q.1, hw.trans q.2⟩) ?_
  rw [QG_b, if_pos rfl]
  refine Qneq ?_
  refine QP_of ?_
  rw [if_neg (by decide), show ((1 : Int) != 1) = false from rfl, QG_b, if_pos rfl]
  refine QM ?_
  rw [QG_b, if_pos rfl]
  refine QV_of (fun w' _ => fR w') ?_
  rw [QG_b, if_pos rfl]
  refine QV_of (fun w' _ => rk w') ?_
  rw [QG_b, if_pos rfl]
  refine QV_of (fun w' hw => l10 w' hw) ?_
  rw [QG_b, if_pos rfl]
  refine QC_rt Try.func18 rfl rfl (v := nilS) (fun w' hw => Waiting_nil (h.calm hw) a.r.rank) (fun w' u w'' hw q => ⟨q.1, hw.trans q.2⟩) ?_
  rw [QG_b, if_pos rfl]
  refine QI_len vRcS _ _ _ _ ?_
  rw [QG_b, if_pos rfl]
  refine QM ?_
  rw [QG_b, if_pos rfl]
  refine QM ?_
  rw [QG_b, if_pos rfl]
  refine QV_of (fun w' _ => fR w') ?_
  rw [QG_b, if_pos rfl]
  refine QV_of (fun w' _ => rk w') ?_
  rw [QG_b, if_pos rfl]
  refine QV_of (fun w' hw => l10 w' hw) ?_
  rw [QG_b, if_pos rfl]
  refine QV_of (fun w' _ => fR w') ?_
  rw [QG_b, if_pos rfl]
  refine QV_of (fun w' _ => cl w') ?_
  rw [QG_b, if_pos rfl]
  refine QV_of (fun w' hw => l11 w' hw) ?_
  rw [QG_b, if_pos rfl]
  refine QC_rt Try.func16 rfl rfl (v := nilS) (fun w' hw => May_nil (h.calm hw) qa a.r.rank a.r.call) (fun w' u w'' hw q => ⟨q.1, hw.trans q.2⟩) ?_
  rw [QG_b, if_pos rfl]
  refine QI_len vMsS _ _ _ _ ?_
  rw [QG_b, if_pos rfl]
  refine Qadd ?_
  rw [QG_b, if_pos rfl]
  refine QM ?_
  rw [QG_b, if_pos rfl]
  refine QM ?_
  rw [QG_b, if_pos rfl]
  refine QV_of (fun w' _ => fR w') ?_
  rw [QG_b, if_pos rfl]
  refine QV_of (fun w' hw => ldR w' hw) ?_
  rw [QG_b, if_pos rfl]
  refine QC_rt Try.func13 rfl rfl (v := nilS) (fun w' hw => Probe_nil (h.calm hw) qa a.r) (fun w' u w'' hw q => ⟨q.1, hw.trans q.2⟩) ?_
  rw [QG_b, if_pos rfl]
  refine QI_len vMsS _ _ _ _ ?_
  rw [QG_b, if_pos rfl]
  refine Qadd ?_
  rw [show IntKind.i64.wrap (IntKind.i64.wrap (((0 : Nat) : Int) + ((0 : Nat) : Int)) + ((0 : Nat) : Int)) = 0 from by decide, QG_b, if_pos rfl]
  refine Qneq ?_
  refine QP_of ?_
  rw [if_neg (by decide)]
  intro w' hw
  refine hk _ w' rfl (fun k hk => ?_) hw
  repeat rw [up_lz hk (by decide)]
theorem nil_R5 {K : Exit → Sl → World → Prop} {ρ : Sl} {p : Nat} {R : Rks} {vs : List Value} (hb : w.heap[b1]? = some (.cells a.enc.toArray tBc (0, 0))) (h : PAt w p R vs) (hlen : ∀ i, (R i).length ≤ 1000000) (e3 : ρ 3 = .pointer none) (e10 : ρ 10 = .pointer (some ⟨p, 0, none⟩)) (e1 : ρ 1 = .pointer (some ⟨b1, 0, none⟩))
    (hk : ∀ (ρ' : Sl) (w' : World), ρ' 2 = .bool true → Mod none_ w w' → K .normal ρ' w') : W fn_ Try.prog 140 dispatcherlaw14_PostedNil_R5 K ρ w := by
  refine dispatcherlaw14_PostedNil_R5_quiet (D := []) (fun w' => Mod none_ w w') ((Mod.refl _ w).drawn _) ?_
  unfold dispatcherlaw14_PostedNil_R5_Q
  rw [e3, e10, e1]
  have hc := act_cells hb
  have ldR : ∀ w', Mod none_ w w' → (Instr.loadAt tRc (.pointer (some ⟨b1, 9, none⟩))).run Try.prog w' = .ok (.agg a.r.enc.toArray) w' := fun w' hm => run_ldA Try.underlying24 rfl (by rw [iRc]; rfl) fun j u hu => by
    rw [add_pl]
    refine hc w' hm _ u ?_
    unfold Bc.enc
    rw [show 9 + j = (8 + j) + 1 by omega, List.getElem?_cons_succ, List.getElem?_append_right (by rw [Ms.enc_len]; omega), Ms.enc_len, show 8 + j - 8 = j by omega]
    exact hu
  have fR : ∀ w' : World, (Instr.fieldAt tBc (.pointer (some ⟨b1, 0, none⟩)) 2).run Try.prog w' = .ok (.pointer (some ⟨b1, 9, none⟩)) w' := fun w' => by rw [run_fo (show fieldOff Try.prog tBc 2 = some 9 by kernel_rfl), add_pl]
  have fM : ∀ w' : World, (Instr.fieldAt tBc (.pointer (some ⟨b1, 0, none⟩)) 1).run Try.prog w' = .ok (.pointer (some ⟨b1, 1, none⟩)) w' := fun w' => by rw [run_fo (show fieldOff Try.prog tBc 1 = some 1 by kernel_rfl), add_pl]
  have rk : ∀ w' : World, (Instr.fieldAt tRc (.pointer (some ⟨b1, 9, none⟩)) 1).run Try.prog w' = .ok (.pointer (some ⟨b1, 10, none⟩)) w' := fun w' => by rw [run_fo (show fieldOff Try.prog tRc 1 = some 1 by kernel_rfl), add_pl]
  have cl : ∀ w' : World, (Instr.fieldAt tRc (.pointer (some ⟨b1, 9, none⟩)) 2).run Try.prog w' = .ok (.pointer (some ⟨b1, 11, none⟩)) w' := fun w' => by rw [run_fo (show fieldOff Try.prog tRc 2 = some 2 by kernel_rfl), add_pl]
  have mf : ∀ w' : World, (Instr.fieldAt tMs (.pointer (some ⟨b1, 1, none⟩)) 1).run Try.prog w' = .ok (.pointer (some ⟨b1, 2, none⟩)) w' := fun w' => by rw [run_fo (show fieldOff Try.prog tMs 1 = some 1 by kernel_rfl), add_pl]
  have mc : ∀ w' : World, (Instr.fieldAt tMs (.pointer (some ⟨b1, 1, none⟩)) 3).run Try.prog w' = .ok (.pointer (some ⟨b1, 4, none⟩)) w' := fun w' => by rw [run_fo (show fieldOff Try.prog tMs 3 = some 3 by kernel_rfl), add_pl]
  have l10 : ∀ w', Mod none_ w w' → (Instr.loadAt 3 (.pointer (some ⟨b1, 10, none⟩))).run Try.prog w' = .ok (.int .i64 a.r.rank) w' := fun w' hm => run_ld1 vI rfl (hc w' hm 10 _ rfl)
  have l11 : ∀ w', Mod none_ w w' → (Instr.loadAt 3 (.pointer (some ⟨b1, 11, none⟩))).run Try.prog w' = .ok (.int .i64 a.r.call) w' := fun w' hm => run_ld1 vI rfl (hc w' hm 11 _ rfl)
  have l2 : ∀ w', Mod none_ w w' → (Instr.loadAt 3 (.pointer (some ⟨b1, 2, none⟩))).run Try.prog w' = .ok (.int .i64 a.m.frm) w' := fun w' hm => run_ld1 vI rfl (hc w' hm 2 _ rfl)
  have l4 : ∀ w', Mod none_ w w' → (Instr.loadAt 3 (.pointer (some ⟨b1, 4, none⟩))).run Try.prog w' = .ok (.int .i64 a.m.call) w' := fun w' hm => run_ld1 vI rfl (hc w' hm 4 _ rfl)
  refine QC_rt Try.func28 rfl rfl (v := .pointer none) (fun w' hw => CopyP_nil w') (fun w' u w'' hw q => ⟨q.1, by rw [q.2]; exact hw⟩) ?_
  refine QB_of (v := .bool true) (fun _ => by kernel_rfl) (fun w => by kernel_rfl) ?_
  rw [QG_b, if_pos rfl]
  refine QM ?_
  rw [QG_b, if_pos rfl]
  refine QV_of (fun w' _ => fR w') ?_
  rw [QG_b, if_pos rfl]
  refine QV_of (fun w' _ => rk w') ?_
  rw [QG_b, if_pos rfl]
  refine QV_of (fun w' hw => l10 w' hw) ?_
  rw [QG_b, if_pos rfl]
  refine QV_of (fun w' _ => fR w') ?_
  rw [QG_b, if_pos rfl]
  refine QV_of (fun w' _ => cl w') ?_
  rw [QG_b, if_pos rfl]
  refine QV_of (fun w' hw => l11 w' hw) ?_
  rw [QG_b, if_pos rfl]
  refine QC_rt Try.func16 rfl rfl (v := nilS) (fun w' hw => MayN_ok (h.calm hw) hlen a.r.rank a.r.call) (fun w' u w'' hw q => ⟨q.1, hw.trans q.2⟩) ?_
  rw [QG_b, if_pos rfl]
  refine QI_len vMsS _ _ _ _ ?_
  rw [QG_b, if_pos rfl]
  refine QM ?_
  rw [QG_b, if_pos rfl]
  refine QV_of (fun w' _ => fR w') ?_
  rw [QG_b, if_pos rfl]
  refine QV_of (fun w' hw => ldR w' hw) ?_
  rw [QG_b, if_pos rfl]
  refine QC_rt Try.func13 rfl rfl (v := nilS) (fun w' hw => ProbeN_ok (h.calm hw) hlen a.r) (fun w' u w'' hw q => ⟨q.1, hw.trans q.2⟩) ?_
  rw [QG_b, if_pos rfl]
  refine QI_len vMsS _ _ _ _ ?_
  rw [QG_b, if_pos rfl]
  refine Qadd ?_
  rw [wrap_i (by omega) (by omega), QG_b, if_pos rfl]
  refine Qeql ?_
  refine QP_of ?_
  rw [if_pos rfl, show ((((0 : Nat) : Int) + ((0 : Nat) : Int)) == 0) = true from rfl, QG_b, if_pos rfl]
  refine QM ?_
  rw [QG_b, if_pos rfl]
  refine QV_of (fun w' _ => fR w') ?_
  rw [QG_b, if_pos rfl]
  refine QV_of (fun w' _ => rk w') ?_
  rw [QG_b, if_pos rfl]
  refine QV_of (fun w' hw => l10 w' hw) ?_
  rw [QG_b, if_pos rfl]
  refine QV_of (fun w' _ => fR w') ?_
  rw [QG_b, if_pos rfl]
  refine QV_of (fun w' _ => cl w') ?_
  rw [QG_b, if_pos rfl]
  refine QV_of (fun w' hw => l11 w' hw) ?_
  rw [QG_b, if_pos rfl]
  refine QV_of (fun w' _ => fM w') ?_
  rw [QG_b, if_pos rfl]
  refine QV_of (fun w' _ => mf w') ?_
  rw [QG_b, if_pos rfl]
  refine QV_of (fun w' hw => l2 w' hw) ?_
  rw [QG_b, if_pos rfl]
  refine QV_of (fun w' _ => fM w') ?_
  rw [QG_b, if_pos rfl]
  refine QV_of (fun w' _ => mc w') ?_
  rw [QG_b, if_pos rfl]
  refine QV_of (fun w' hw => l4 w' hw) ?_
  rw [QG_b, if_pos rfl]
  refine QC_rt Try.func17 rfl rfl (v := .int .i64 2) (fun w' hw => MatchN_ok (h.calm hw) hlen a.r.rank a.r.call a.m.frm a.m.call) (fun w' u w'' hw q => ⟨q.1, hw.trans q.2⟩) ?_
  rw [QG_b, if_pos rfl]
  refine Qeql ?_
  refine QP_of ?_
  rw [if_pos rfl, show ((2 : Int) == 2) = true from rfl]
  intro w' hw
  exact hk _ w' rfl hw
end
theorem PostedNil_ok (w : World) (a : Bc) : Rt Try.prog 7 #[.agg a.enc.toArray] w fun u w' => u = .bool true ∧ Mod none_ w w' := by
  refine dispatcherlaw14_PostedNil_calls ?_
  unfold dispatcherlaw14_PostedNil_F
  refine box_k (cs := a.enc.toArray) rfl fun w1 hb1 hm1 hz1 => ?_
  refine ldS rfl Try.underlying48 rfl (by kernel_rfl) hb1 ?_
  refine bs_k (cs := a.enc.toArray) (by kernel_rfl) fun w2 hb2 hm2 hz2 => ?_
  have hB : Bcts w2 (.slice (some ⟨w1.heap.size, 0, none⟩) 1 1) [a] := by
    have := reads_blk (size := 17 + 1) (n := 1) hb2 rfl
    unfold Bcts
    simpa using this
  refine CK_st Try.func11 rfl rfl (GreatB_ok hB) ?_
  rintro _ w2 ⟨rfl, rfl⟩
  have hm12 := hm1.trans hm2
  refine caseC (fun hgr => ⟨by trivial, hm12⟩) (fun hgr => ?_)
  refine CK_st Try.func23 rfl rfl (New_ok w2) ?_
  rintro _ w3 ⟨q, V, rfl, hq, hqF, hm3⟩
  have hm13 := hm12.trans hm3
  have hb13 := (hm2.trans hm3).blk hb1 id
  have s12 := hm2.size
  rw [fo (show fieldOff Try.prog tBc 1 = some 1 by kernel_rfl), add_pl]
  refine ldA (cs := a.m.enc) Try.underlying39 rfl (by rw [iMs]; rfl) (fun j u hu => ?_) ?_
  · rw [add_pl, cell_blk hb13]
    have : a.enc[0 + 1 + j]? = some u := by
      unfold Bc.enc
      rw [show 0 + 1 + j = j + 1 by omega, List.getElem?_cons_succ, List.getElem?_append_left (List.getElem?_eq_some_iff.1 hu).1]
      exact hu
    simpa using this
  refine CK_st Try.func25 rfl rfl (Send_ok hq (by decide) a.m) ?_
  rintro _ w4 ⟨_, V4, hq4, f4⟩
  obtain ⟨hm24, hF4⟩ := QFr.none f4 hm3 hqF
  have hm04 := hm12.trans hm24
  have hb14 := hm24.blk (hm2.blk hb1 id) id
  rw [build_ok (cs := zPd.toArray) (by kernel_rfl)]
  refine box_k (cs := zPd.toArray) rfl fun w5 hb5 hm5 hz5 => ?_
  refine bs_k (cs := #[.pointer none, .pointer (some ⟨w4.heap.size, 0, none⟩)]) (by kernel_rfl) fun w6 hb6 hm6 hz6 => ?_
  have hm46 := hm5.trans hm6
  have hb16 := hm46.blk hb14 id
  have hb56 := hm6.blk hb5 id
  have hm06 := hm04.trans hm46
  have hrow : reads w6 1 (.slice (some ⟨w5.heap.size, 0, none⟩) 2 2) 2 [.pointer none, .pointer (some ⟨w4.heap.size, 0, none⟩)] := reads_blk (size := 1) (n := 2) hb6 rfl
  generalize hvl : (Value.slice (some ⟨w5.heap.size, 0, none⟩) 2 2) = vl at *
  refine W_loop dispatcherlaw14_PostedNil_L0_ok (fun ρ w' => ∃ i : Nat, i ≤ 2 ∧ ρ 6 = .int .i64 i ∧ ρ 5 = vl ∧ ρ 1 = .pointer (some ⟨w.heap.size, 0, none⟩) ∧ ρ 3 = .pointer none ∧ Mod none_ w6 w') (fun ρ _ => 2 - (intOf (ρ 6)).toNat)
    ⟨0, Nat.zero_le _, rfl, rfl, rfl, rfl, Mod.refl _ _⟩ ?_
  rintro ρ w7 ⟨i, hi, e6, e5, e1, e3, hm7⟩
  rw [dispatcherlaw14_PostedNil_L0_eq]; unfold dispatcherlaw14_PostedNil_L0_F
  rw [e6, e5, e1, ← hvl, len_sl vPs, hvl, BK_lss]
  have hb17 := hm7.blk hb16 id
  by_cases hlt : i < 2
  · rw [decide_eq_true (by omega)]
    refine condT ?_
    have hp : ∃ p : Option Addr, ([Value.pointer none, .pointer (some ⟨w4.heap.size, 0, none⟩)] : List Value)[i]? = some (.pointer p) ∧ NilP w7 p := by
      have : i = 0 ∨ i = 1 := by omega
      rcases this with rfl | rfl
      · exact ⟨none, rfl, .inl rfl⟩
      · exact ⟨some ⟨w4.heap.size, 0, none⟩, rfl, .inr ⟨_, rfl, hm7.blk hb56 id⟩⟩
    obtain ⟨p, hpx, hN⟩ := hp
    refine ixld vPs (by kernel_rfl) uPd rfl (reads_mod hrow hm7 fun _ _ _ => id) (by omega) (u := .pointer p) (by simpa using hpx) fun _ => ?_
    rw [fo (show fieldOff Try.prog tBc 2 = some 9 by kernel_rfl), fo (show fieldOff Try.prog tRc 1 = some 1 by kernel_rfl), add_pl, add_pl]
    refine ld1 vI rfl (v := .int .i64 a.r.rank) (by rw [cell_blk hb17]; rfl) ?_
    rw [fo (show fieldOff Try.prog tBc 2 = some 9 by kernel_rfl), fo (show fieldOff Try.prog tRc 2 = some 2 by kernel_rfl), add_pl, add_pl]
    refine ld1 vI rfl (v := .int .i64 a.r.call) (by rw [cell_blk hb17]; rfl) ?_
    refine CK_st Try.func21 rfl rfl (At_nil hN a.r.rank a.r.call) ?_
    rintro _ w8 ⟨rfl, hm8⟩
    unfold rcb
    rw [extract_ok (v := .agg zRc.enc.toArray) rfl, extract_ok (v := .bool false) rfl]
    refine rcSlot_k fun w9 hb9 hm9 hz9 => ?_
    have hm79 := hm8.trans hm9
    refine nil_R2 (hm79.blk hb17 id) (hN.calm hm79) rfl rfl (by first | exact e1 | rfl) rfl ?_
    intro ρ2 w10 d96 hlo hm10
    rw [sq_n, dispatcherlaw14_PostedNil_R3_eq]; unfold dispatcherlaw14_PostedNil_R3_F
    rw [d96]
    refine condF ?_
    have q6 : ρ2 6 = .int .i64 (i : Int) := (hlo 6 (by decide)).trans (by first | exact e6 | rfl)
    have q5 := (hlo 5 (by decide)).trans (by first | exact e5 | rfl)
    have q1 := (hlo 1 (by decide)).trans (by first | exact e1 | rfl)
    have q3 := (hlo 3 (by decide)).trans (by first | exact e3 | rfl)
    rw [bk_n, sq_n, dispatcherlaw14_PostedNil_R4_eq]; unfold dispatcherlaw14_PostedNil_R4_F
    rw [q6, BK_add, wrap_i (by omega) (by omega)]
    refine ⟨⟨i + 1, hlt, rfl, q5, q1, q3, hm7.trans (hm79.trans hm10)⟩, ?_⟩
    simp only [sq_n, sq_x, sq_r, bk_n, bk_r, bk_x, rt_r, rt_n, rs_0, rs_t, pk_1, pk_2, up_at, reduceIte, Nat.reduceEqDiff, intOf]; omega
  · obtain rfl : i = 2 := by omega
    rw [show decide (((2 : Nat) : Int) < ((2 : Nat) : Int)) = false from rfl]
    refine condF ?_
    rw [sq_x, bk_x, sq_n, dispatcherlaw14_PostedNil_R1_eq]; unfold dispatcherlaw14_PostedNil_R1_F
    have key : ∀ ρ1 : Sl, ρ1 1 = .pointer (some ⟨w.heap.size, 0, none⟩) → ρ1 3 = .pointer none → dispatcherlaw14_PostedNil_R1_F fn_ (retK Try.prog [ResultVar.tmp 2] fun u w' => u = .bool true ∧ Mod none_ w w') ρ1 w7 := by
      intro ρ1 d1 d3
      unfold dispatcherlaw14_PostedNil_R1_F
      rw [d1]
      refine CK_st Try.func24 rfl rfl (New_ok' w7) ?_
      rintro _ w8 ⟨p, vs, rfl, hp, hpF, hm8⟩
      have hb18 := hm8.blk hb17 id
      rw [fo (show fieldOff Try.prog tBc 2 = some 9 by kernel_rfl), add_pl]
      refine ldA (cs := a.r.enc) Try.underlying24 rfl (by rw [iRc]; rfl) (fun j u hu => ?_) ?_
      · rw [add_pl, cell_blk hb18]
        have : a.enc[0 + 9 + j]? = some u := by
          unfold Bc.enc
          rw [show 0 + 9 + j = (8 + j) + 1 by omega, List.getElem?_cons_succ, List.getElem?_append_right (by rw [Ms.enc_len]; omega), Ms.enc_len, show 8 + j - 8 = j by omega]
          exact hu
        simpa using this
      refine CK_st Try.func14 rfl rfl (Post_ok hp (fun _ => Nat.zero_le _) a.r) ?_
      rintro _ w9 ⟨_, vs9, hp9, f9⟩
      have hw7 : w.heap.size < w7.heap.size := X.blk_lt hb17
      have hnp : ¬ PF p vs w.heap.size := fun z => by have := hpF _ z; omega
      have hb19 := f9.mod.blk hb18 hnp
      have hm79 : Mod none_ w7 w9 := hm8.then f9.mod fun i hi z => by have := hpF i z; omega
      refine nil_R5 hb19 hp9 (fun i => by have := post_len (R := fun _ => []) (n := 0) (fun _ => Nat.le_refl _) a.r i; omega) (by first | exact d3 | rfl) rfl (by first | exact d1 | rfl) ?_
      intro ρ2 w10 q2 hm10
      rw [sq_n, dispatcherlaw14_PostedNil_R6_eq]; unfold dispatcherlaw14_PostedNil_R6_F
      show ρ2 2 = .bool true ∧ _
      exact ⟨q2, (hm06.trans hm7).trans (hm79.trans hm10)⟩
    exact key _ (by first | exact e1 | rfl) (by first | exact e3 | rfl)
end Go.Proofs.Ytmnkedgmpbcicaa.Que
set_option linter.unusedVariables false
set_option maxRecDepth 4000
namespace Go.Proofs.Ytmnkedgmpbcicaa.Que
open Go Go.X Go.RowKit
def shM : Sh Ms := ⟨8, fun w m cs => cs = m.enc⟩
def shR : Sh Rc := ⟨9, fun w r cs => cs = r.enc⟩
def shB : Sh Bc := ⟨18, fun w a cs => cs = a.enc⟩
theorem strV_back (b : ByteArray) : strV b.data.toList = .string b := by unfold strV; rw [Array.toArray_toList]
theorem opensM (n : Nat) : OpensAt Try.prog n shM 39 :=
  opens_as (opens_struct Try.underlying39 (by kernel_rfl) (fun m _ => fields_cons rfl (by kernel_rfl) (opens_string Try.underlying9) (fields_cons rfl (by kernel_rfl) (opens_int Try.underlying3) (fields_cons rfl (by kernel_rfl) (opens_int Try.underlying3)
    (fields_cons rfl (by kernel_rfl) (opens_int Try.underlying3) (fields_cons rfl (by kernel_rfl) (opens_int Try.underlying3) (fields_cons rfl (by kernel_rfl) (opens_int Try.underlying2) (fields_cons rfl (by kernel_rfl) (opens_int Try.underlying3) (fields_one rfl (by kernel_rfl) (opens_bool Try.underlying4))))))))))
    (fun x => (⟨x.1.data.toList, x.2.1, x.2.2.1, x.2.2.2.1, x.2.2.2.2.1, x.2.2.2.2.2.1, x.2.2.2.2.2.2.1, x.2.2.2.2.2.2.2⟩ : Ms))
    (fun w v cs h => by
      obtain ⟨c0, d0, rfl, _, ⟨rfl, h0⟩, c1, d1, rfl, _, ⟨rfl, h1⟩, c2, d2, rfl, _, ⟨rfl, h2⟩, c3, d3, rfl, _, ⟨rfl, h3⟩, c4, d4, rfl, _, ⟨rfl, h4⟩, c5, d5, rfl, _, ⟨rfl, h5⟩, c6, d6, rfl, _, ⟨rfl, h6⟩, h7⟩ := h
      subst h7
      show _ = Ms.enc _
      simp only [Ms.enc, strV_back]
      rfl)
theorem opensR (n : Nat) : OpensAt Try.prog n shR 24 :=
  opens_as (opens_struct Try.underlying24 (by kernel_rfl) (fun m _ => fields_cons rfl (by kernel_rfl) (opens_string Try.underlying9) (fields_cons rfl (by kernel_rfl) (opens_int Try.underlying3) (fields_cons rfl (by kernel_rfl) (opens_int Try.underlying3)
    (fields_cons rfl (by kernel_rfl) (opens_int Try.underlying3) (fields_cons rfl (by kernel_rfl) (opens_int Try.underlying3) (fields_cons rfl (by kernel_rfl) (opens_int Try.underlying3) (fields_cons rfl (by kernel_rfl) (opens_bool Try.underlying4) (fields_cons rfl (by kernel_rfl) (opens_int Try.underlying3) (fields_one rfl (by kernel_rfl) (opens_int Try.underlying3)))))))))))
    (fun x => (⟨x.1.data.toList, x.2.1, x.2.2.1, x.2.2.2.1, x.2.2.2.2.1, x.2.2.2.2.2.1, x.2.2.2.2.2.2.1, x.2.2.2.2.2.2.2.1, x.2.2.2.2.2.2.2.2⟩ : Rc))
    (fun w v cs h => by
      obtain ⟨c0, d0, rfl, _, ⟨rfl, h0⟩, c1, d1, rfl, _, ⟨rfl, h1⟩, c2, d2, rfl, _, ⟨rfl, h2⟩, c3, d3, rfl, _, ⟨rfl, h3⟩, c4, d4, rfl, _, ⟨rfl, h4⟩, c5, d5, rfl, _, ⟨rfl, h5⟩, c6, d6, rfl, _, rfl, c7, d7, rfl, _, ⟨rfl, h7⟩, ⟨h8, h9⟩⟩ := h
      subst h8
      show _ = Rc.enc _
      simp only [Rc.enc, strV_back]
      rfl)
theorem opensB (n : Nat) : OpensAt Try.prog n shB 48 :=
  opens_as (opens_struct Try.underlying48 (by kernel_rfl) (fun m _ => fields_cons rfl (by kernel_rfl) (opens_int Try.underlying5) (fields_cons rfl (by kernel_rfl) (opensM m) (fields_one rfl (by kernel_rfl) (opensR m)))))
    (fun x => (⟨x.1, x.2.1, x.2.2⟩ : Bc))
    (fun w v cs h => by
      obtain ⟨c0, d0, rfl, _, ⟨rfl, h0⟩, c1, d1, rfl, _, h1, h2⟩ := h
      obtain rfl : c1 = v.2.1.enc := h1
      obtain rfl : d1 = v.2.2.enc := h2
      rfl)
end Go.Proofs.Ytmnkedgmpbcicaa.Que
