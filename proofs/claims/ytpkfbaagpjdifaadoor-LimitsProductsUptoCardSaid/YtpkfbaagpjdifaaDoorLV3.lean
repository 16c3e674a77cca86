/- Several texts of this repo, one behind the other, without what is not used here. -/
import Derived.Test.YtpkfbaagpjdifaaDoorProg
import Derived.Test.YtpkfbaagpjdifaaDoorLV2
set_option linter.unusedVariables false
set_option maxRecDepth 100000
namespace Go.Proofs.YtpkfbaagpjdifaaDoor.XG
open Go Go.X
noncomputable def scope_New_b : Code := (Tryd.f73.body).getD .skip
noncomputable def scope_New_L0 : Code := cAt [1, 1, 1, 0, 1, 0, 0] scope_New_b
noncomputable def scope_New_R1 : Code := cAt [1, 1, 1, 1] scope_New_b
noncomputable def scope_New_R2 : Code := cAt [1, 1, 1, 0, 1, 0, 0, 1, 1, 0, 0, 1, 1, 1, 0, 0] scope_New_b
noncomputable def scope_New_R3 : Code := cAt [1, 1, 1, 0, 1, 0, 0, 1, 1, 0, 0, 1, 1, 1, 0, 1] scope_New_b
noncomputable def scope_New_R4 : Code := cAt [1, 1, 1, 0, 1, 0, 0, 1, 1, 1] scope_New_b
noncomputable def scope_New_R5 : Code := cAt [1, 1, 1, 1, 0, 1, 1, 0, 0] scope_New_b
noncomputable def scope_New_R6 : Code := cAt [1, 1, 1, 1, 0, 1, 1, 0, 1] scope_New_b
noncomputable def scope_New_R7 : Code := cAt [1, 1, 1, 1, 1] scope_New_b
noncomputable def scope_New_L0_F (z : At) (K : Exit → Sl → World → Prop) (ρ : Sl) (w : World) : Prop :=
  BK Tryd.prog .lss 3 (.tmp 19) (.tmp 18) (ρ 19) (ρ 18) w fun x20 w => CondK x20 (VK Tryd.prog (Instr.indexAt 32 (ρ 17) (ρ 19)) w fun x21 w => VK Tryd.prog (Instr.loadAt 43 x21) w fun x22 w => VK Tryd.prog (Instr.alloc 43 true (.tuple #[])) w fun x6 w => UK Tryd.prog (Instr.storeAt 43 x6 x22) w fun _ w => VK Tryd.prog (Instr.loadAt 43 x6) w fun x24 w => CK Tryd.prog (Value.func (Fn.func 88) #[] #[]) [(ρ 4), x24] w fun x25 w => BK Tryd.prog .neq 38 (.tmp 26) (.const (Value.int .i64 0)) x25 (Value.int .i64 0) w fun x27 w => CondK x27 (W z Tryd.prog 45 scope_New_R2 (seqK (sx z Tryd.prog 45 scope_New_R3 (blkK 1 (seqK (sx z Tryd.prog 45 scope_New_R4 K) K))) (blkK 1 (seqK (sx z Tryd.prog 45 scope_New_R4 K) K))) (up (up (up (up (up (up (up (up (up (up ρ 20 x20) 21 x21) 22 x22) 6 x6) 23 (ρ 4)) 24 x24) 25 x25) 7 x25) 26 x25) 27 x27) w) (BK Tryd.prog .add 3 (.tmp 19) (.const (Value.int .i64 1)) (ρ 19) (Value.int .i64 1) w fun x34 w => K .normal (up (up (up (up (up (up (up (up (up (up (up (up ρ 20 x20) 21 x21) 22 x22) 6 x6) 23 (ρ 4)) 24 x24) 25 x25) 7 x25) 26 x25) 27 x27) 34 x34) 19 x34) w)) (K (.exit 0) (up ρ 20 x20) w)
theorem scope_New_L0_eq (z : At) (K : Exit → Sl → World → Prop) (ρ : Sl) (w : World) : sx z Tryd.prog 45 scope_New_L0 K ρ w = scope_New_L0_F z K ρ w := by kernel_rfl
theorem scope_New_L0_ok : dstOk 45 scope_New_L0 = true := by kernel_rfl
noncomputable def scope_New_R1_F (z : At) (K : Exit → Sl → World → Prop) (ρ : Sl) (w : World) : Prop :=
  VK Tryd.prog (Instr.fieldAt 34 (ρ 1) 1) w fun x36 w => VK Tryd.prog (Instr.loadAt 23 x36) w fun x37 w => CK Tryd.prog (Value.func (Fn.func 89) #[] #[]) [(ρ 4), x37] w fun x38 w => VK Tryd.prog (Instr.alloc 54 true (.tuple #[])) w fun x8 w => UK Tryd.prog (Instr.storeAt 54 x8 x38) w fun _ w => VK Tryd.prog (Instr.fieldAt 54 x8 0) w fun x39 w => VK Tryd.prog (Instr.loadAt 38 x39) w fun x40 w => BK Tryd.prog .neq 38 (.tmp 40) (.const (Value.int .i64 0)) x40 (Value.int .i64 0) w fun x41 w => CondK x41 (W z Tryd.prog 45 scope_New_R5 (seqK (sx z Tryd.prog 45 scope_New_R6 (seqK (sx z Tryd.prog 45 scope_New_R7 K) K)) (seqK (sx z Tryd.prog 45 scope_New_R7 K) K)) (up (up (up (up (up (up (up (up ρ 35 (ρ 4)) 36 x36) 37 x37) 38 x38) 8 x8) 39 x39) 40 x40) 41 x41) w) (VK Tryd.prog (Instr.build 54 [].toArray) w fun x44 w => UK Tryd.prog (Instr.storeAt 54 (ρ 3) x44) w fun _ w => K .ret (up (up (up (up (up (up (up (up (up (up (up ρ 35 (ρ 4)) 36 x36) 37 x37) 38 x38) 8 x8) 39 x39) 40 x40) 41 x41) 43 (ρ 4)) 44 x44) 2 (ρ 4)) w)
theorem scope_New_R1_eq (z : At) (K : Exit → Sl → World → Prop) (ρ : Sl) (w : World) : sx z Tryd.prog 45 scope_New_R1 K ρ w = scope_New_R1_F z K ρ w := by kernel_rfl
noncomputable def scope_New_R2_ops : Array Oper := opsOf scope_New_R2
def scope_New_R2_T (K : Exit → Sl → World → Prop) (ρ : Sl) (w : World) : Prop :=
  let C : World → Prop := fun w' => w' = w; QK Tryd.prog C (do pure (Next.value (← Instr.fieldAt 43 (ρ 6) 2))) fun x29 => QK Tryd.prog C (do pure (Next.value (← Instr.loadAt 3 x29))) fun x30 => QK Tryd.prog C (do pure (Next.value (← Instr.fieldAt 43 (ρ 6) 3))) fun x31 => QK Tryd.prog C (do pure (Next.value (← Instr.loadAt 3 x31))) fun x32 => QK Tryd.prog C (do pure (Next.value (← Instr.build 54 [(0, (ρ 7)), (1, x30), (2, x32)].toArray))) fun x33 => UK Tryd.prog (Instr.storeAt 54 (ρ 3) x33) w fun _ w => K Exit.normal (up (up (up (up (up (up (up ρ 28 (ρ 7)) 29 x29) 30 x30) 31 x31) 32 x32) 33 x33) 2 (Value.pointer none)) w
theorem scope_New_R2_tail {D : List Deferred} {K : Exit → Sl → World → Prop} {ρ : Sl} {w : World} (h : scope_New_R2_T K ρ { w with drawn := w.drawn + 1 }) : W ⟨none, D⟩ Tryd.prog 45 scope_New_R2 K ρ w := by
  have e : scope_New_R2 = .region (idOf scope_New_R2) scope_New_R2_ops true := by kernel_rfl
  have q : sxq Tryd.prog (fun w' => w' = { w with drawn := w.drawn + 1 }) scope_New_R2_ops (fun ρ' => sxL Tryd.prog scope_New_R2_ops (K .normal) (scope_New_R2_ops.toList.drop 7) ρ' { w with drawn := w.drawn + 1 }) (scope_New_R2_ops.toList.take 7) ρ = scope_New_R2_T K ρ { w with drawn := w.drawn + 1 } := by kernel_rfl
  rw [e]
  exact W_tail 7 (by kernel_rfl) (by kernel_rfl) (by kernel_rfl) (by kernel_rfl) (Eq.mpr q h)
noncomputable def scope_New_R3_F (z : At) (K : Exit → Sl → World → Prop) (ρ : Sl) (w : World) : Prop :=
  K .ret ρ w
theorem scope_New_R3_eq (z : At) (K : Exit → Sl → World → Prop) (ρ : Sl) (w : World) : sx z Tryd.prog 45 scope_New_R3 K ρ w = scope_New_R3_F z K ρ w := by kernel_rfl
noncomputable def scope_New_R5_ops : Array Oper := opsOf scope_New_R5
def scope_New_R5_T (K : Exit → Sl → World → Prop) (ρ : Sl) (w : World) : Prop :=
  let C : World → Prop := fun w' => w' = w; QK Tryd.prog C (do pure (Next.value (← Instr.loadAt 54 (ρ 8)))) fun x42 => UK Tryd.prog (Instr.storeAt 54 (ρ 3) x42) w fun _ w => K Exit.normal (up (up ρ 42 x42) 2 (Value.pointer none)) w
theorem scope_New_R5_tail {D : List Deferred} {K : Exit → Sl → World → Prop} {ρ : Sl} {w : World} (h : scope_New_R5_T K ρ { w with drawn := w.drawn + 1 }) : W ⟨none, D⟩ Tryd.prog 45 scope_New_R5 K ρ w := by
  have e : scope_New_R5 = .region (idOf scope_New_R5) scope_New_R5_ops true := by kernel_rfl
  have q : sxq Tryd.prog (fun w' => w' = { w with drawn := w.drawn + 1 }) scope_New_R5_ops (fun ρ' => sxL Tryd.prog scope_New_R5_ops (K .normal) (scope_New_R5_ops.toList.drop 2) ρ' { w with drawn := w.drawn + 1 }) (scope_New_R5_ops.toList.take 2) ρ = scope_New_R5_T K ρ { w with drawn := w.drawn + 1 } := by kernel_rfl
  rw [e]
  exact W_tail 2 (by kernel_rfl) (by kernel_rfl) (by kernel_rfl) (by kernel_rfl) (Eq.mpr q h)
noncomputable def scope_New_R6_F (z : At) (K : Exit → Sl → World → Prop) (ρ : Sl) (w : World) : Prop :=
  K .ret ρ w
theorem scope_New_R6_eq (z : At) (K : Exit → Sl → World → Prop) (ρ : Sl) (w : World) : sx z Tryd.prog 45 scope_New_R6 K ρ w = scope_New_R6_F z K ρ w := by kernel_rfl
noncomputable def scope_New_F (a0 : Value) (w : World) (R : Value → World → Prop) : Prop :=
  VK Tryd.prog (Instr.box 34 a0) w fun x1 w => VK Tryd.prog (Instr.alloc 54 true (.tuple #[])) w fun x3 w => VK Tryd.prog (Instr.loadAt 34 x1) w fun x9 w => CK Tryd.prog (Value.func (Fn.func 7) #[] #[]) [x9] w fun x10 w => VK Tryd.prog (Op.unary UnOp.not x10) w fun x11 w => CondK x11 (VK Tryd.prog (Instr.build 54 [(0, (Value.int .i64 2))].toArray) w fun x12 w => UK Tryd.prog (Instr.storeAt 54 x3 x12) w fun _ w => ∃ x3_1, (do loadVar 54 (← asAddr x3) : Sem Value).run Tryd.prog w = .ok x3_1 w ∧ R (Value.tuple #[(Value.pointer none), x3_1]) w) (VK Tryd.prog (Instr.makeMap 121 none) w fun x13 w => VK Tryd.prog (Instr.build 124 [(1, x13)].toArray) w fun x14 w => VK Tryd.prog (Instr.box 124 x14) w fun x15 w => VK Tryd.prog (Instr.fieldAt 34 x1 0) w fun x16 w => VK Tryd.prog (Instr.loadAt 32 x16) w fun x17 w => IK Tryd.prog .len #[32] 3 [false] [x17] w fun x18 w => W fn_ Tryd.prog 45 (Code.loop scope_New_L0) (blkK 0 (seqK (sx fn_ Tryd.prog 45 scope_New_R1 (retK Tryd.prog [ResultVar.tmp 2, ResultVar.cell 3 54] R)) (retK Tryd.prog [ResultVar.tmp 2, ResultVar.cell 3 54] R))) (up (up (up (up (up (up (up (up (up (up (up (up (up (up (rho0 [a0]) 1 x1) 2 (Value.pointer none)) 3 x3) 9 x9) 10 x10) 11 x11) 13 x13) 14 x14) 15 x15) 4 x15) 16 x16) 17 x17) 18 x18) 19 (Value.int .i64 0)) w)
theorem scope_New_eq (a0 : Value) (w : World) (R : Value → World → Prop) : sx fn_ Tryd.prog 45 scope_New_b (retK Tryd.prog Tryd.f73.results.toList R) (rho0 [a0]) w = scope_New_F a0 w R := by kernel_rfl
theorem scope_New_calls {a0 : Value} {w : World} {R : Value → World → Prop} (h : scope_New_F a0 w R) : Calls Tryd.prog 73 #[a0] w fun e w' => ∃ v, e = .returned v ∧ R v w' :=
  Go.X.calls_of_sx (n := 45) (c := scope_New_b) Tryd.func73 (by kernel_rfl) (by kernel_rfl) (Nat.le_of_ble_eq_true rfl) (by kernel_rfl) (Eq.mpr (scope_New_eq a0 w R) h)
noncomputable def scope_Table_declare_b : Code := (Tryd.f88.body).getD .skip
noncomputable def scope_Table_declare_R0 : Code := cAt [1, 0, 0] scope_Table_declare_b
noncomputable def scope_Table_declare_R1 : Code := cAt [1, 0, 1] scope_Table_declare_b
noncomputable def scope_Table_declare_R2 : Code := cAt [1, 1] scope_Table_declare_b
noncomputable def scope_Table_declare_R3 : Code := cAt [1, 1, 1, 1] scope_Table_declare_b
noncomputable def scope_Table_declare_R4 : Code := cAt [1, 1, 1, 0, 1, 0] scope_Table_declare_b
noncomputable def scope_Table_declare_R5 : Code := cAt [1, 1, 1, 1, 1] scope_Table_declare_b
noncomputable def scope_Table_declare_R6 : Code := cAt [1, 1, 1, 1, 0, 0, 1] scope_Table_declare_b
noncomputable def scope_Table_declare_R7 : Code := cAt [1, 1, 1, 1, 1, 0] scope_Table_declare_b
noncomputable def scope_Table_declare_R8 : Code := cAt [1, 1, 1, 1, 1, 1] scope_Table_declare_b
noncomputable def scope_Table_declare_R9 : Code := cAt [1, 1, 1, 1, 0, 0, 1, 1, 1, 1, 0] scope_Table_declare_b
noncomputable def scope_Table_declare_R10 : Code := cAt [1, 1, 1, 1, 0, 0, 1, 1, 1, 1, 1] scope_Table_declare_b
noncomputable def scope_Table_declare_R11 : Code := cAt [1, 1, 1, 1, 1, 1, 0] scope_Table_declare_b
noncomputable def scope_Table_declare_R12 : Code := cAt [1, 1, 1, 1, 1, 1, 1] scope_Table_declare_b
noncomputable def scope_Table_declare_R0_ops : Array Oper := opsOf scope_Table_declare_R0
def scope_Table_declare_R0_Q (C : World → Prop) (K : Exit → Sl → World → Prop) (ρ : Sl) : Prop :=
  QK Tryd.prog C (nilCk (ρ 0)) fun x7 => QK Tryd.prog C (do pure (Next.value (← Instr.fieldAt 124 x7 1))) fun x8 => QK Tryd.prog C (do pure (Next.value (← Instr.loadAt 121 x8))) fun x9 => QK Tryd.prog C (do pure (Next.value (← Instr.fieldAt 43 (ρ 3) 0))) fun x10 => QK Tryd.prog C (do pure (Next.value (← Instr.loadAt 9 x10))) fun x11 => QK Tryd.prog C (do pure (Next.value (← Instr.lookup 121 x9 x11 false))) fun x12 => QK Tryd.prog C (do pure (Next.value (← Instr.build 130 [].toArray))) fun x13 => QK Tryd.prog C (do pure (Next.value (← (do eqGuard BinOp.neq 130 (Operand.tmp 12) (Operand.tmp 13) x12 x13; binOp BinOp.neq 130 x12 x13)))) fun x14 => ∀ w', C w' → K Exit.normal (up (up (up (up (up (up (up (up (up ρ 6 (ρ 0)) 7 x7) 8 x8) 9 x9) 10 x10) 11 x11) 12 x12) 13 x13) 14 x14) w'
theorem scope_Table_declare_R0_quiet {D : List Deferred} (C : World → Prop) {K : Exit → Sl → World → Prop} {ρ : Sl} {w : World} (hC : C { w with drawn := w.drawn + 1 }) (h : scope_Table_declare_R0_Q C K ρ) : W ⟨none, D⟩ Tryd.prog 101 scope_Table_declare_R0 K ρ w := by
  have e : scope_Table_declare_R0 = .region (idOf scope_Table_declare_R0) scope_Table_declare_R0_ops true := by kernel_rfl
  have q : sxq Tryd.prog C scope_Table_declare_R0_ops (fun ρ' => ∀ w', C w' → K .normal ρ' w') scope_Table_declare_R0_ops.toList ρ = scope_Table_declare_R0_Q C K ρ := by kernel_rfl
  rw [e]
  exact W_quiet C (by kernel_rfl) (by kernel_rfl) (by kernel_rfl) hC (Eq.mpr q h)
noncomputable def scope_Table_declare_R1_F (z : At) (K : Exit → Sl → World → Prop) (ρ : Sl) (w : World) : Prop :=
  CondK (ρ 14) (K .ret (up ρ 4 (Value.int .i64 40)) w) (K .normal ρ w)
theorem scope_Table_declare_R1_eq (z : At) (K : Exit → Sl → World → Prop) (ρ : Sl) (w : World) : sx z Tryd.prog 101 scope_Table_declare_R1 K ρ w = scope_Table_declare_R1_F z K ρ w := by kernel_rfl
noncomputable def scope_Table_declare_R2_F (z : At) (K : Exit → Sl → World → Prop) (ρ : Sl) (w : World) : Prop :=
  NK Tryd.prog (ρ 0) w fun x16 w => VK Tryd.prog (Instr.fieldAt 124 x16 2) w fun x17 w => VK Tryd.prog (Instr.loadAt 3 x17) w fun x18 w => VK Tryd.prog (Instr.build 130 [(0, (Value.int .u8 1)), (1, x18)].toArray) w fun x19 w => VK Tryd.prog (Instr.alloc 130 true (.tuple #[])) w fun x5 w => UK Tryd.prog (Instr.storeAt 130 x5 x19) w fun _ w => VK Tryd.prog (Instr.fieldAt 43 (ρ 3) 1) w fun x20 w => VK Tryd.prog (Instr.loadAt 3 x20) w fun x21 w => BK Tryd.prog .gtr 3 (.tmp 21) (.const (Value.int .i64 0)) x21 (Value.int .i64 0) w fun x22 w => CondK x22 (W z Tryd.prog 101 scope_Table_declare_R4 (seqK (sx z Tryd.prog 101 scope_Table_declare_R3 K) K) (up (up (up (up (up (up (up (up (up ρ 15 (ρ 0)) 16 x16) 17 x17) 18 x18) 19 x19) 5 x5) 20 x20) 21 x21) 22 x22) w) (sx z Tryd.prog 101 scope_Table_declare_R3 K (up (up (up (up (up (up (up (up (up ρ 15 (ρ 0)) 16 x16) 17 x17) 18 x18) 19 x19) 5 x5) 20 x20) 21 x21) 22 x22) w)
theorem scope_Table_declare_R2_eq (z : At) (K : Exit → Sl → World → Prop) (ρ : Sl) (w : World) : sx z Tryd.prog 101 scope_Table_declare_R2 K ρ w = scope_Table_declare_R2_F z K ρ w := by kernel_rfl
noncomputable def scope_Table_declare_R3_F (z : At) (K : Exit → Sl → World → Prop) (ρ : Sl) (w : World) : Prop :=
  VK Tryd.prog (Instr.fieldAt 130 (ρ 5) 0) w fun x56 w => VK Tryd.prog (Instr.loadAt 5 x56) w fun x57 w => BK Tryd.prog .eql 5 (.tmp 57) (.const (Value.int .u8 1)) x57 (Value.int .u8 1) w fun x58 w => MG Tryd.prog x58 true (ρ 0) w fun x60 w => NG Tryd.prog x58 true x60 w fun x61 w => VG Tryd.prog x58 true (Instr.fieldAt 124 x61 2) w fun x62 w => VG Tryd.prog x58 true (Instr.loadAt 3 x62) w fun x63 w => BG Tryd.prog x58 true .eql 3 (.tmp 63) (.const (Value.int .i64 64)) x63 (Value.int .i64 64) w fun x64 w => PK Tryd.prog x58 x64 (Value.bool false) w fun x65 w => CondK x65 (sx z Tryd.prog 101 scope_Table_declare_R6 (blkK 0 (seqK (sx z Tryd.prog 101 scope_Table_declare_R5 K) K)) (up (up (up (up (up (up (up (up (up (up (up ρ 56 x56) 57 x57) 58 x58) 59 x58) 60 x60) 61 x61) 62 x62) 63 x63) 64 x64) 65 x65) 55 x65) w) (VK Tryd.prog (Instr.fieldAt 130 (ρ 5) 2) w fun x66 w => VK Tryd.prog (Instr.loadAt 3 x66) w fun x67 w => VK Tryd.prog (Instr.fieldAt 130 (ρ 5) 3) w fun x68 w => VK Tryd.prog (Instr.loadAt 3 x68) w fun x69 w => BK Tryd.prog .add 3 (.tmp 67) (.tmp 69) x67 x69 w fun x70 w => BK Tryd.prog .gtr 3 (.tmp 70) (.const (Value.int .i64 1000)) x70 (Value.int .i64 1000) w fun x71 w => sx z Tryd.prog 101 scope_Table_declare_R6 (blkK 0 (seqK (sx z Tryd.prog 101 scope_Table_declare_R5 K) K)) (up (up (up (up (up (up (up (up (up (up (up (up (up (up (up (up (up (up ρ 56 x56) 57 x57) 58 x58) 59 x58) 60 x60) 61 x61) 62 x62) 63 x63) 64 x64) 65 x65) 55 x65) 66 x66) 67 x67) 68 x68) 69 x69) 70 x70) 71 x71) 55 x71) w)
theorem scope_Table_declare_R3_eq (z : At) (K : Exit → Sl → World → Prop) (ρ : Sl) (w : World) : sx z Tryd.prog 101 scope_Table_declare_R3 K ρ w = scope_Table_declare_R3_F z K ρ w := by kernel_rfl
noncomputable def scope_Table_declare_R4_ops : Array Oper := opsOf scope_Table_declare_R4
def scope_Table_declare_R4_T (K : Exit → Sl → World → Prop) (ρ : Sl) (w : World) : Prop :=
  let C : World → Prop := fun w' => w' = w; QK Tryd.prog C (nilCk (ρ 0)) fun x24 => QK Tryd.prog C (do pure (Next.value (← Instr.fieldAt 124 x24 3))) fun x25 => QK Tryd.prog C (do pure (Next.value (← Instr.loadAt 122 x25))) fun x26 => QK Tryd.prog C (builtin Builtin.len #[122] 3 [false].toArray [x26].toArray) fun x27 => QK Tryd.prog C (nilCk (ρ 0)) fun x29 => QK Tryd.prog C (do pure (Next.value (← Instr.fieldAt 124 x29 4))) fun x30 => QK Tryd.prog C (do pure (Next.value (← Instr.loadAt 3 x30))) fun x31 => QK Tryd.prog C (do pure (Next.value (← Instr.fieldAt 43 (ρ 3) 1))) fun x32 => QK Tryd.prog C (do pure (Next.value (← Instr.loadAt 3 x32))) fun x33 => VK Tryd.prog (Instr.build 130 [(0, (Value.int IntKind.u8 2)), (1, x27), (2, x31), (3, x33)].toArray) w fun x34 w => UK Tryd.prog (Instr.storeAt 130 (ρ 5) x34) w fun _ w => K Exit.normal (up (up (up (up (up (up (up (up (up (up (up (up ρ 23 (ρ 0)) 24 x24) 25 x25) 26 x26) 27 x27) 28 (ρ 0)) 29 x29) 30 x30) 31 x31) 32 x32) 33 x33) 34 x34) w
theorem scope_Table_declare_R4_tail {D : List Deferred} {K : Exit → Sl → World → Prop} {ρ : Sl} {w : World} (h : scope_Table_declare_R4_T K ρ { w with drawn := w.drawn + 1 }) : W ⟨none, D⟩ Tryd.prog 101 scope_Table_declare_R4 K ρ w := by
  have e : scope_Table_declare_R4 = .region (idOf scope_Table_declare_R4) scope_Table_declare_R4_ops true := by kernel_rfl
  have q : sxq Tryd.prog (fun w' => w' = { w with drawn := w.drawn + 1 }) scope_Table_declare_R4_ops (fun ρ' => sxL Tryd.prog scope_Table_declare_R4_ops (K .normal) (scope_Table_declare_R4_ops.toList.drop 11) ρ' { w with drawn := w.drawn + 1 }) (scope_Table_declare_R4_ops.toList.take 11) ρ = scope_Table_declare_R4_T K ρ { w with drawn := w.drawn + 1 } := by kernel_rfl
  rw [e]
  exact W_tail 11 (by kernel_rfl) (by kernel_rfl) (by kernel_rfl) (by kernel_rfl) (Eq.mpr q h)
noncomputable def scope_Table_declare_R5_F (z : At) (K : Exit → Sl → World → Prop) (ρ : Sl) (w : World) : Prop :=
  W z Tryd.prog 101 scope_Table_declare_R7 (seqK (sx z Tryd.prog 101 scope_Table_declare_R8 K) K) ρ w
theorem scope_Table_declare_R5_eq (z : At) (K : Exit → Sl → World → Prop) (ρ : Sl) (w : World) : sx z Tryd.prog 101 scope_Table_declare_R5 K ρ w = scope_Table_declare_R5_F z K ρ w := by kernel_rfl
noncomputable def scope_Table_declare_R6_F (z : At) (K : Exit → Sl → World → Prop) (ρ : Sl) (w : World) : Prop :=
  CondK (ρ 55) (K .ret (up ρ 4 (Value.int .i64 4)) w) (VK Tryd.prog (Instr.fieldAt 130 (ρ 5) 0) w fun x73 w => VK Tryd.prog (Instr.loadAt 5 x73) w fun x74 w => BK Tryd.prog .eql 5 (.tmp 74) (.const (Value.int .u8 1)) x74 (Value.int .u8 1) w fun x75 w => CondK x75 (NK Tryd.prog (ρ 0) w fun x77 w => VK Tryd.prog (Instr.fieldAt 124 x77 2) w fun x78 w => VK Tryd.prog (Instr.loadAt 3 x78) w fun x79 w => BK Tryd.prog .add 3 (.tmp 79) (.const (Value.int .i64 1)) x79 (Value.int .i64 1) w fun x80 w => NK Tryd.prog (ρ 0) w fun x81 w => VK Tryd.prog (Instr.fieldAt 124 x81 2) w fun x82 w => UK Tryd.prog (Instr.storeAt 3 x82 x80) w fun _ w => K .normal (up (up (up (up (up (up (up (up (up (up (up ρ 73 x73) 74 x74) 75 x75) 72 x75) 76 (ρ 0)) 77 x77) 78 x78) 79 x79) 80 x80) 81 x81) 82 x82) w) (W z Tryd.prog 101 scope_Table_declare_R9 (seqK (sx z Tryd.prog 101 scope_Table_declare_R10 K) K) (up (up (up (up ρ 73 x73) 74 x74) 75 x75) 72 x75) w))
theorem scope_Table_declare_R6_eq (z : At) (K : Exit → Sl → World → Prop) (ρ : Sl) (w : World) : sx z Tryd.prog 101 scope_Table_declare_R6 K ρ w = scope_Table_declare_R6_F z K ρ w := by kernel_rfl
noncomputable def scope_Table_declare_R7_ops : Array Oper := opsOf scope_Table_declare_R7
def scope_Table_declare_R7_T (K : Exit → Sl → World → Prop) (ρ : Sl) (w : World) : Prop :=
  let C : World → Prop := fun w' => w' = w; QK Tryd.prog C (nilCk (ρ 0)) fun x84 => QK Tryd.prog C (do pure (Next.value (← Instr.fieldAt 124 x84 1))) fun x85 => QK Tryd.prog C (do pure (Next.value (← Instr.loadAt 121 x85))) fun x86 => QK Tryd.prog C (do pure (Next.value (← Instr.fieldAt 43 (ρ 3) 0))) fun x87 => QK Tryd.prog C (do pure (Next.value (← Instr.loadAt 9 x87))) fun x88 => QK Tryd.prog C (do pure (Next.value (← Instr.loadAt 130 (ρ 5)))) fun x89 => UK Tryd.prog (Instr.mapUpdate 121 x86 x88 x89) w fun _ w => K Exit.normal (up (up (up (up (up (up (up ρ 83 (ρ 0)) 84 x84) 85 x85) 86 x86) 87 x87) 88 x88) 89 x89) w
theorem scope_Table_declare_R7_tail {D : List Deferred} {K : Exit → Sl → World → Prop} {ρ : Sl} {w : World} (h : scope_Table_declare_R7_T K ρ { w with drawn := w.drawn + 1 }) : W ⟨none, D⟩ Tryd.prog 101 scope_Table_declare_R7 K ρ w := by
  have e : scope_Table_declare_R7 = .region (idOf scope_Table_declare_R7) scope_Table_declare_R7_ops true := by kernel_rfl
  have q : sxq Tryd.prog (fun w' => w' = { w with drawn := w.drawn + 1 }) scope_Table_declare_R7_ops (fun ρ' => sxL Tryd.prog scope_Table_declare_R7_ops (K .normal) (scope_Table_declare_R7_ops.toList.drop 7) ρ' { w with drawn := w.drawn + 1 }) (scope_Table_declare_R7_ops.toList.take 7) ρ = scope_Table_declare_R7_T K ρ { w with drawn := w.drawn + 1 } := by kernel_rfl
  rw [e]
  exact W_tail 7 (by kernel_rfl) (by kernel_rfl) (by kernel_rfl) (by kernel_rfl) (Eq.mpr q h)
noncomputable def scope_Table_declare_R8_F (z : At) (K : Exit → Sl → World → Prop) (ρ : Sl) (w : World) : Prop :=
  W z Tryd.prog 101 scope_Table_declare_R11 (seqK (sx z Tryd.prog 101 scope_Table_declare_R12 K) K) ρ w
theorem scope_Table_declare_R8_eq (z : At) (K : Exit → Sl → World → Prop) (ρ : Sl) (w : World) : sx z Tryd.prog 101 scope_Table_declare_R8 K ρ w = scope_Table_declare_R8_F z K ρ w := by kernel_rfl
noncomputable def scope_Table_declare_R9_ops : Array Oper := opsOf scope_Table_declare_R9
def scope_Table_declare_R9_H (S : World → Prop) (K : Exit → Sl → World → Prop) (ρ : Sl) (w : World) : Prop :=
  HK Tryd.prog S (nilCk (ρ 0)) fun x37 => HK Tryd.prog S (do pure (Next.value (← Instr.fieldAt 124 x37 3))) fun x38 => HK Tryd.prog S (do pure (Next.value (← Instr.fieldAt 43 (ρ 3) 1))) fun x40 => HK Tryd.prog S (do pure (Next.value (← Instr.loadAt 3 x40))) fun x41 => (VK Tryd.prog (Instr.loadAt 122 x38) w fun x39 w => S w ∧ (VK Tryd.prog (Instr.buildSlice 122 1 [(0, x41)].toArray) w fun x42 w => S w ∧ (IK Tryd.prog Builtin.append #[122, 122] 122 [false, false] [x39, x42] w fun x43 w => S w ∧ (HK Tryd.prog S (nilCk (ρ 0)) fun x44 => HK Tryd.prog S (do pure (Next.value (← Instr.fieldAt 124 x44 3))) fun x45 => UK Tryd.prog (Instr.storeAt 122 x45 x43) w fun _ w => S w ∧ (K Exit.normal (up (up (up (up (up (up (up (up (up (up (up ρ 35 (ρ 0)) 36 (ρ 0)) 37 x37) 38 x38) 40 x40) 41 x41) 39 x39) 42 x42) 43 x43) 44 x44) 45 x45) w))))) ∧ (VK Tryd.prog (Instr.buildSlice 122 1 [(0, x41)].toArray) w fun x42_1 w => S w ∧ (VK Tryd.prog (Instr.loadAt 122 x38) w fun x39_1 w => S w ∧ (IK Tryd.prog Builtin.append #[122, 122] 122 [false, false] [x39_1, x42_1] w fun x43_1 w => S w ∧ (HK Tryd.prog S (nilCk (ρ 0)) fun x44_1 => HK Tryd.prog S (do pure (Next.value (← Instr.fieldAt 124 x44_1 3))) fun x45_1 => UK Tryd.prog (Instr.storeAt 122 x45_1 x43_1) w fun _ w => S w ∧ (K Exit.normal (up (up (up (up (up (up (up (up (up (up (up ρ 35 (ρ 0)) 36 (ρ 0)) 37 x37) 38 x38) 40 x40) 41 x41) 42 x42_1) 39 x39_1) 43 x43_1) 44 x44_1) 45 x45_1) w)))))
theorem scope_Table_declare_R9_held {D : List Deferred} (S : World → Prop) {K : Exit → Sl → World → Prop} {ρ : Sl} {w : World} (hS : S { w with drawn := w.drawn + 1 }) (h : scope_Table_declare_R9_H S K ρ { w with drawn := w.drawn + 1 }) : W ⟨none, D⟩ Tryd.prog 101 scope_Table_declare_R9 K ρ w := by
  have e : scope_Table_declare_R9 = .region (idOf scope_Table_declare_R9) scope_Table_declare_R9_ops true := by kernel_rfl
  have q : sxp Tryd.prog S scope_Table_declare_R9_ops (K .normal) (Pl.take 0 (Pl.take 1 (Pl.take 2 (Pl.take 3 (Pl.take 5 (Pl.take 6 (Pl.two 4 7 (Pl.only 7 (Pl.only 8 (Pl.take 9 (Pl.take 10 (Pl.only 11 Pl.done))))) (Pl.only 4 (Pl.only 8 (Pl.take 9 (Pl.take 10 (Pl.only 11 Pl.done)))))))))))) ρ { w with drawn := w.drawn + 1 } = scope_Table_declare_R9_H S K ρ { w with drawn := w.drawn + 1 } := by kernel_rfl
  rw [e]
  exact W_plan S (Pl.take 0 (Pl.take 1 (Pl.take 2 (Pl.take 3 (Pl.take 5 (Pl.take 6 (Pl.two 4 7 (Pl.only 7 (Pl.only 8 (Pl.take 9 (Pl.take 10 (Pl.only 11 Pl.done))))) (Pl.only 4 (Pl.only 8 (Pl.take 9 (Pl.take 10 (Pl.only 11 Pl.done)))))))))))) (by kernel_rfl) (by kernel_rfl) (by kernel_rfl) (by kernel_rfl) hS (Eq.mpr q h)
noncomputable def scope_Table_declare_R10_ops : Array Oper := opsOf scope_Table_declare_R10
def scope_Table_declare_R10_H (S : World → Prop) (K : Exit → Sl → World → Prop) (ρ : Sl) (w : World) : Prop :=
  HK Tryd.prog S (nilCk (ρ 0)) fun x47 => HK Tryd.prog S (do pure (Next.value (← Instr.fieldAt 124 x47 4))) fun x48 => HK Tryd.prog S (do pure (Next.value (← Instr.fieldAt 43 (ρ 3) 1))) fun x50 => HK Tryd.prog S (do pure (Next.value (← Instr.loadAt 3 x50))) fun x51 => VK Tryd.prog (Instr.loadAt 3 x48) w fun x49 w => S w ∧ (HK Tryd.prog S (do pure (Next.value (← (do eqGuard BinOp.add 3 (Operand.tmp 49) (Operand.tmp 51) x49 x51; binOp BinOp.add 3 x49 x51)))) fun x52 => HK Tryd.prog S (nilCk (ρ 0)) fun x53 => HK Tryd.prog S (do pure (Next.value (← Instr.fieldAt 124 x53 4))) fun x54 => UK Tryd.prog (Instr.storeAt 3 x54 x52) w fun _ w => S w ∧ (K Exit.normal (up (up (up (up (up (up (up (up (up ρ 46 (ρ 0)) 47 x47) 48 x48) 50 x50) 51 x51) 49 x49) 52 x52) 53 x53) 54 x54) w))
theorem scope_Table_declare_R10_held {D : List Deferred} (S : World → Prop) {K : Exit → Sl → World → Prop} {ρ : Sl} {w : World} (hS : S { w with drawn := w.drawn + 1 }) (h : scope_Table_declare_R10_H S K ρ { w with drawn := w.drawn + 1 }) : W ⟨none, D⟩ Tryd.prog 101 scope_Table_declare_R10 K ρ w := by
  have e : scope_Table_declare_R10 = .region (idOf scope_Table_declare_R10) scope_Table_declare_R10_ops true := by kernel_rfl
  have q : sxp Tryd.prog S scope_Table_declare_R10_ops (K .normal) (Pl.take 0 (Pl.take 1 (Pl.take 2 (Pl.take 4 (Pl.take 5 (Pl.only 3 (Pl.take 6 (Pl.take 7 (Pl.take 8 (Pl.only 9 Pl.done)))))))))) ρ { w with drawn := w.drawn + 1 } = scope_Table_declare_R10_H S K ρ { w with drawn := w.drawn + 1 } := by kernel_rfl
  rw [e]
  exact W_plan S (Pl.take 0 (Pl.take 1 (Pl.take 2 (Pl.take 4 (Pl.take 5 (Pl.only 3 (Pl.take 6 (Pl.take 7 (Pl.take 8 (Pl.only 9 Pl.done)))))))))) (by kernel_rfl) (by kernel_rfl) (by kernel_rfl) (by kernel_rfl) hS (Eq.mpr q h)
noncomputable def scope_Table_declare_R11_ops : Array Oper := opsOf scope_Table_declare_R11
def scope_Table_declare_R11_H (S : World → Prop) (K : Exit → Sl → World → Prop) (ρ : Sl) (w : World) : Prop :=
  HK Tryd.prog S (nilCk (ρ 0)) fun x92 => HK Tryd.prog S (do pure (Next.value (← Instr.fieldAt 124 x92 0))) fun x93 => HK Tryd.prog S (do pure (Next.value (← Instr.fieldAt 43 (ρ 3) 0))) fun x95 => HK Tryd.prog S (do pure (Next.value (← Instr.loadAt 9 x95))) fun x96 => (VK Tryd.prog (Instr.loadAt 91 x93) w fun x94 w => S w ∧ (VK Tryd.prog (Instr.buildSlice 91 1 [(0, x96)].toArray) w fun x97 w => S w ∧ (IK Tryd.prog Builtin.append #[91, 91] 91 [false, false] [x94, x97] w fun x98 w => S w ∧ (HK Tryd.prog S (nilCk (ρ 0)) fun x99 => HK Tryd.prog S (do pure (Next.value (← Instr.fieldAt 124 x99 0))) fun x100 => UK Tryd.prog (Instr.storeAt 91 x100 x98) w fun _ w => S w ∧ (K Exit.normal (up (up (up (up (up (up (up (up (up (up (up ρ 90 (ρ 0)) 91 (ρ 0)) 92 x92) 93 x93) 95 x95) 96 x96) 94 x94) 97 x97) 98 x98) 99 x99) 100 x100) w))))) ∧ (VK Tryd.prog (Instr.buildSlice 91 1 [(0, x96)].toArray) w fun x97_1 w => S w ∧ (VK Tryd.prog (Instr.loadAt 91 x93) w fun x94_1 w => S w ∧ (IK Tryd.prog Builtin.append #[91, 91] 91 [false, false] [x94_1, x97_1] w fun x98_1 w => S w ∧ (HK Tryd.prog S (nilCk (ρ 0)) fun x99_1 => HK Tryd.prog S (do pure (Next.value (← Instr.fieldAt 124 x99_1 0))) fun x100_1 => UK Tryd.prog (Instr.storeAt 91 x100_1 x98_1) w fun _ w => S w ∧ (K Exit.normal (up (up (up (up (up (up (up (up (up (up (up ρ 90 (ρ 0)) 91 (ρ 0)) 92 x92) 93 x93) 95 x95) 96 x96) 97 x97_1) 94 x94_1) 98 x98_1) 99 x99_1) 100 x100_1) w)))))
theorem scope_Table_declare_R11_held {D : List Deferred} (S : World → Prop) {K : Exit → Sl → World → Prop} {ρ : Sl} {w : World} (hS : S { w with drawn := w.drawn + 1 }) (h : scope_Table_declare_R11_H S K ρ { w with drawn := w.drawn + 1 }) : W ⟨none, D⟩ Tryd.prog 101 scope_Table_declare_R11 K ρ w := by
  have e : scope_Table_declare_R11 = .region (idOf scope_Table_declare_R11) scope_Table_declare_R11_ops true := by kernel_rfl
  have q : sxp Tryd.prog S scope_Table_declare_R11_ops (K .normal) (Pl.take 0 (Pl.take 1 (Pl.take 2 (Pl.take 3 (Pl.take 5 (Pl.take 6 (Pl.two 4 7 (Pl.only 7 (Pl.only 8 (Pl.take 9 (Pl.take 10 (Pl.only 11 Pl.done))))) (Pl.only 4 (Pl.only 8 (Pl.take 9 (Pl.take 10 (Pl.only 11 Pl.done)))))))))))) ρ { w with drawn := w.drawn + 1 } = scope_Table_declare_R11_H S K ρ { w with drawn := w.drawn + 1 } := by kernel_rfl
  rw [e]
  exact W_plan S (Pl.take 0 (Pl.take 1 (Pl.take 2 (Pl.take 3 (Pl.take 5 (Pl.take 6 (Pl.two 4 7 (Pl.only 7 (Pl.only 8 (Pl.take 9 (Pl.take 10 (Pl.only 11 Pl.done))))) (Pl.only 4 (Pl.only 8 (Pl.take 9 (Pl.take 10 (Pl.only 11 Pl.done)))))))))))) (by kernel_rfl) (by kernel_rfl) (by kernel_rfl) (by kernel_rfl) hS (Eq.mpr q h)
noncomputable def scope_Table_declare_R12_F (z : At) (K : Exit → Sl → World → Prop) (ρ : Sl) (w : World) : Prop :=
  K .ret (up ρ 4 (Value.int .i64 0)) w
theorem scope_Table_declare_R12_eq (z : At) (K : Exit → Sl → World → Prop) (ρ : Sl) (w : World) : sx z Tryd.prog 101 scope_Table_declare_R12 K ρ w = scope_Table_declare_R12_F z K ρ w := by kernel_rfl
noncomputable def scope_Table_declare_F (a0 a1 : Value) (w : World) (R : Value → World → Prop) : Prop :=
  VK Tryd.prog (Instr.box 43 a1) w fun x3 w => W fn_ Tryd.prog 101 scope_Table_declare_R0 (seqK (sx fn_ Tryd.prog 101 scope_Table_declare_R1 (seqK (sx fn_ Tryd.prog 101 scope_Table_declare_R2 (retK Tryd.prog [ResultVar.tmp 4] R)) (retK Tryd.prog [ResultVar.tmp 4] R))) (seqK (sx fn_ Tryd.prog 101 scope_Table_declare_R2 (retK Tryd.prog [ResultVar.tmp 4] R)) (retK Tryd.prog [ResultVar.tmp 4] R))) (up (up (rho0 [a0, a1]) 3 x3) 4 (Value.int .i64 0)) w
theorem scope_Table_declare_eq (a0 a1 : Value) (w : World) (R : Value → World → Prop) : sx fn_ Tryd.prog 101 scope_Table_declare_b (retK Tryd.prog Tryd.f88.results.toList R) (rho0 [a0, a1]) w = scope_Table_declare_F a0 a1 w R := by kernel_rfl
theorem scope_Table_declare_calls {a0 a1 : Value} {w : World} {R : Value → World → Prop} (h : scope_Table_declare_F a0 a1 w R) : Calls Tryd.prog 88 #[a0, a1] w fun e w' => ∃ v, e = .returned v ∧ R v w' :=
  Go.X.calls_of_sx (n := 101) (c := scope_Table_declare_b) Tryd.func88 (by kernel_rfl) (by kernel_rfl) (Nat.le_of_ble_eq_true rfl) (by kernel_rfl) (Eq.mpr (scope_Table_declare_eq a0 a1 w R) h)
noncomputable def scope_Table_look_b : Code := (Tryd.f89.body).getD .skip
noncomputable def scope_Table_look_F (a0 a1 : Value) (w : World) (R : Value → World → Prop) : Prop :=
  VK Tryd.prog (Instr.box 107 a0) w fun x2 w => VK Tryd.prog (Instr.alloc 54 true (.tuple #[])) w fun x4 w => VK Tryd.prog (Instr.alloc 54 true (.tuple #[])) w fun x5 w => VK Tryd.prog (Instr.makeFunc (Fn.func 96) [].toArray [x2, x5].toArray) w fun x9 w => VK Tryd.prog (Instr.alloc 131 true (.tuple #[])) w fun x6 w => UK Tryd.prog (Instr.storeAt 131 x6 x9) w fun _ w => VK Tryd.prog (Instr.alloc 98 true (.tuple #[])) w fun x7 w => VK Tryd.prog (Instr.makeFunc (Fn.func 97) [].toArray [x6, x7].toArray) w fun x10 w => UK Tryd.prog (Instr.storeAt 98 x7 x10) w fun _ w => VK Tryd.prog (Instr.alloc 48 true (.tuple #[])) w fun x8 w => VK Tryd.prog (Instr.makeFunc (Fn.func 98) [].toArray [x6, x7, x8].toArray) w fun x11 w => UK Tryd.prog (Instr.storeAt 48 x8 x11) w fun _ w => VK Tryd.prog (Instr.loadAt 48 x8) w fun x12 w => CK Tryd.prog x12 [a1] w fun x14 w => VK Tryd.prog (Instr.loadAt 54 x5) w fun x15 w => UK Tryd.prog (Instr.storeAt 54 x4 x15) w fun _ w => ∃ x4_1, (do loadVar 54 (← asAddr x4) : Sem Value).run Tryd.prog w = .ok x4_1 w ∧ R x4_1 w
theorem scope_Table_look_eq (a0 a1 : Value) (w : World) (R : Value → World → Prop) : sx fn_ Tryd.prog 16 scope_Table_look_b (retK Tryd.prog Tryd.f89.results.toList R) (rho0 [a0, a1]) w = scope_Table_look_F a0 a1 w R := by kernel_rfl
theorem scope_Table_look_calls {a0 a1 : Value} {w : World} {R : Value → World → Prop} (h : scope_Table_look_F a0 a1 w R) : Calls Tryd.prog 89 #[a0, a1] w fun e w' => ∃ v, e = .returned v ∧ R v w' :=
  Go.X.calls_of_sx (n := 16) (c := scope_Table_look_b) Tryd.func89 (by kernel_rfl) (by kernel_rfl) (Nat.le_of_ble_eq_true rfl) (by kernel_rfl) (Eq.mpr (scope_Table_look_eq a0 a1 w R) h)
noncomputable def scope_Table_look_1_b : Code := (Tryd.f96.body).getD .skip
noncomputable def scope_Table_look_1_R0 : Code := cAt [1, 1] scope_Table_look_1_b
noncomputable def scope_Table_look_1_R0_F (z : At) (K : Exit → Sl → World → Prop) (ρ : Sl) (w : World) : Prop :=
  VK Tryd.prog (Instr.fieldAt 54 (ρ 5) 0) w fun x23 w => VK Tryd.prog (Instr.loadAt 38 x23) w fun x24 w => BK Tryd.prog .eql 38 (.tmp 24) (.const (Value.int .i64 0)) x24 (Value.int .i64 0) w fun x25 w => K .ret (up (up (up (up ρ 23 x23) 24 x24) 25 x25) 10 x25) w
theorem scope_Table_look_1_R0_eq (z : At) (K : Exit → Sl → World → Prop) (ρ : Sl) (w : World) : sx z Tryd.prog 26 scope_Table_look_1_R0 K ρ w = scope_Table_look_1_R0_F z K ρ w := by kernel_rfl
noncomputable def scope_Table_look_1_F (a0 a1 a2 a3 a4 a5 : Value) (w : World) (R : Value → World → Prop) : Prop :=
  VK Tryd.prog (Instr.loadAt 107 a4) w fun x11 w => NK Tryd.prog x11 w fun x12 w => VK Tryd.prog (Instr.fieldAt 124 x12 1) w fun x13 w => VK Tryd.prog (Instr.loadAt 121 x13) w fun x14 w => VK Tryd.prog (Instr.lookup 121 x14 a0 false) w fun x16 w => VK Tryd.prog (Instr.field 130 x16 0) w fun x17 w => BK Tryd.prog .neq 5 (.tmp 17) (.tmp 18) x17 a1 w fun x19 w => CondK x19 (VK Tryd.prog (Instr.build 54 [(0, (Value.int .i64 40)), (1, a2), (2, a3)].toArray) w fun x22 w => UK Tryd.prog (Instr.storeAt 54 a5 x22) w fun _ w => sx fn_ Tryd.prog 26 scope_Table_look_1_R0 (retK Tryd.prog [ResultVar.tmp 10] R) (up (up (up (up (up (up (up (up (up (up (up (up (up (rho0 [a0, a1, a2, a3, a4, a5]) 10 (Value.bool false)) 11 x11) 12 x12) 13 x13) 14 x14) 15 a0) 16 x16) 17 x17) 18 a1) 19 x19) 20 a2) 21 a3) 22 x22) w) (sx fn_ Tryd.prog 26 scope_Table_look_1_R0 (retK Tryd.prog [ResultVar.tmp 10] R) (up (up (up (up (up (up (up (up (up (up (rho0 [a0, a1, a2, a3, a4, a5]) 10 (Value.bool false)) 11 x11) 12 x12) 13 x13) 14 x14) 15 a0) 16 x16) 17 x17) 18 a1) 19 x19) w)
theorem scope_Table_look_1_eq (a0 a1 a2 a3 a4 a5 : Value) (w : World) (R : Value → World → Prop) : sx fn_ Tryd.prog 26 scope_Table_look_1_b (retK Tryd.prog Tryd.f96.results.toList R) (rho0 [a0, a1, a2, a3, a4, a5]) w = scope_Table_look_1_F a0 a1 a2 a3 a4 a5 w R := by kernel_rfl
theorem scope_Table_look_1_calls {a0 a1 a2 a3 a4 a5 : Value} {w : World} {R : Value → World → Prop} (h : scope_Table_look_1_F a0 a1 a2 a3 a4 a5 w R) : Calls Tryd.prog 96 #[a0, a1, a2, a3, a4, a5] w fun e w' => ∃ v, e = .returned v ∧ R v w' :=
  Go.X.calls_of_sx (n := 26) (c := scope_Table_look_1_b) Tryd.func96 (by kernel_rfl) (by kernel_rfl) (Nat.le_of_ble_eq_true rfl) (by kernel_rfl) (Eq.mpr (scope_Table_look_1_eq a0 a1 a2 a3 a4 a5 w R) h)
noncomputable def scope_Table_look_2_b : Code := (Tryd.f97.body).getD .skip
noncomputable def scope_Table_look_2_R0 : Code := cAt [1, 1, 1] scope_Table_look_2_b
noncomputable def scope_Table_look_2_L1 : Code := cAt [1, 1, 1, 0, 1, 0, 0] scope_Table_look_2_b
noncomputable def scope_Table_look_2_R2 : Code := cAt [1, 1, 1, 1] scope_Table_look_2_b
noncomputable def scope_Table_look_2_R0_F (z : At) (K : Exit → Sl → World → Prop) (ρ : Sl) (w : World) : Prop :=
  VK Tryd.prog (Instr.fieldAt 29 (ρ 3) 3) w fun x30 w => VK Tryd.prog (Instr.loadAt 22 x30) w fun x31 w => IK Tryd.prog .len #[22] 3 [false] [x31] w fun x32 w => W z Tryd.prog 45 (Code.loop scope_Table_look_2_L1) (blkK 1 (seqK (sx z Tryd.prog 45 scope_Table_look_2_R2 K) K)) (up (up (up (up ρ 30 x30) 31 x31) 32 x32) 33 (Value.int .i64 0)) w
theorem scope_Table_look_2_R0_eq (z : At) (K : Exit → Sl → World → Prop) (ρ : Sl) (w : World) : sx z Tryd.prog 45 scope_Table_look_2_R0 K ρ w = scope_Table_look_2_R0_F z K ρ w := by kernel_rfl
noncomputable def scope_Table_look_2_L1_F (z : At) (K : Exit → Sl → World → Prop) (ρ : Sl) (w : World) : Prop :=
  BK Tryd.prog .lss 3 (.tmp 33) (.tmp 32) (ρ 33) (ρ 32) w fun x34 w => CondK x34 (VK Tryd.prog (Instr.indexAt 22 (ρ 31) (ρ 33)) w fun x35 w => VK Tryd.prog (Instr.loadAt 29 x35) w fun x36 w => VK Tryd.prog (Instr.alloc 29 true (.tuple #[])) w fun x7 w => UK Tryd.prog (Instr.storeAt 29 x7 x36) w fun _ w => VG Tryd.prog (ρ 5) true (Instr.loadAt 98 (ρ 2)) w fun x39 w => VG Tryd.prog (ρ 5) true (Instr.loadAt 29 x7) w fun x40 w => CG Tryd.prog (ρ 5) true x39 [x40] w fun x41 w => PK Tryd.prog (ρ 5) x41 (Value.bool false) w fun x42 w => BK Tryd.prog .add 3 (.tmp 33) (.const (Value.int .i64 1)) (ρ 33) (Value.int .i64 1) w fun x43 w => K .normal (up (up (up (up (up (up (up (up (up (up (up (up (up ρ 34 x34) 35 x35) 36 x36) 7 x7) 37 (ρ 5)) 38 (ρ 5)) 39 x39) 40 x40) 41 x41) 42 x42) 5 x42) 43 x43) 33 x43) w) (K (.exit 1) (up ρ 34 x34) w)
theorem scope_Table_look_2_L1_eq (z : At) (K : Exit → Sl → World → Prop) (ρ : Sl) (w : World) : sx z Tryd.prog 45 scope_Table_look_2_L1 K ρ w = scope_Table_look_2_L1_F z K ρ w := by kernel_rfl
theorem scope_Table_look_2_L1_ok : dstOk 45 scope_Table_look_2_L1 = true := by kernel_rfl
noncomputable def scope_Table_look_2_R2_F (z : At) (K : Exit → Sl → World → Prop) (ρ : Sl) (w : World) : Prop :=
  K .ret (up (up ρ 44 (ρ 5)) 4 (ρ 5)) w
theorem scope_Table_look_2_R2_eq (z : At) (K : Exit → Sl → World → Prop) (ρ : Sl) (w : World) : sx z Tryd.prog 45 scope_Table_look_2_R2 K ρ w = scope_Table_look_2_R2_F z K ρ w := by kernel_rfl
noncomputable def scope_Table_look_2_F (a0 a1 a2 : Value) (w : World) (R : Value → World → Prop) : Prop :=
  VK Tryd.prog (Instr.box 29 a0) w fun x3 w => VK Tryd.prog (Instr.fieldAt 29 x3 0) w fun x8 w => VK Tryd.prog (Instr.loadAt 5 x8) w fun x9 w => BK Tryd.prog .eql 5 (.tmp 9) (.const (Value.int .u8 2)) x9 (Value.int .u8 2) w fun x11 w => CondK x11 (VK Tryd.prog (Instr.loadAt 131 a1) w fun x12 w => VK Tryd.prog (Instr.fieldAt 29 x3 2) w fun x13 w => VK Tryd.prog (Instr.loadAt 9 x13) w fun x14 w => VK Tryd.prog (Instr.fieldAt 29 x3 4) w fun x15 w => VK Tryd.prog (Instr.loadAt 3 x15) w fun x16 w => VK Tryd.prog (Instr.fieldAt 29 x3 5) w fun x17 w => VK Tryd.prog (Instr.loadAt 3 x17) w fun x18 w => CK Tryd.prog x12 [x14, (Value.int .u8 1), x16, x18] w fun x19 w => sx fn_ Tryd.prog 45 scope_Table_look_2_R0 (retK Tryd.prog [ResultVar.tmp 4] R) (up (up (up (up (up (up (up (up (up (up (up (up (up (up (up (up (rho0 [a0, a1, a2]) 3 x3) 4 (Value.bool false)) 5 (Value.bool true)) 8 x8) 9 x9) 11 x11) 10 x11) 12 x12) 13 x13) 14 x14) 15 x15) 16 x16) 17 x17) 18 x18) 19 x19) 5 x19) w) (BK Tryd.prog .eql 5 (.tmp 9) (.const (Value.int .u8 3)) x9 (Value.int .u8 3) w fun x21 w => CondK x21 (VK Tryd.prog (Instr.loadAt 131 a1) w fun x22 w => VK Tryd.prog (Instr.fieldAt 29 x3 2) w fun x23 w => VK Tryd.prog (Instr.loadAt 9 x23) w fun x24 w => VK Tryd.prog (Instr.fieldAt 29 x3 4) w fun x25 w => VK Tryd.prog (Instr.loadAt 3 x25) w fun x26 w => VK Tryd.prog (Instr.fieldAt 29 x3 5) w fun x27 w => VK Tryd.prog (Instr.loadAt 3 x27) w fun x28 w => CK Tryd.prog x22 [x24, (Value.int .u8 2), x26, x28] w fun x29 w => sx fn_ Tryd.prog 45 scope_Table_look_2_R0 (retK Tryd.prog [ResultVar.tmp 4] R) (up (up (up (up (up (up (up (up (up (up (up (up (up (up (up (up (up (up (rho0 [a0, a1, a2]) 3 x3) 4 (Value.bool false)) 5 (Value.bool true)) 8 x8) 9 x9) 11 x11) 10 x11) 21 x21) 20 x21) 22 x22) 23 x23) 24 x24) 25 x25) 26 x26) 27 x27) 28 x28) 29 x29) 5 x29) w) (sx fn_ Tryd.prog 45 scope_Table_look_2_R0 (retK Tryd.prog [ResultVar.tmp 4] R) (up (up (up (up (up (up (up (up (up (rho0 [a0, a1, a2]) 3 x3) 4 (Value.bool false)) 5 (Value.bool true)) 8 x8) 9 x9) 11 x11) 10 x11) 21 x21) 20 x21) w))
theorem scope_Table_look_2_eq (a0 a1 a2 : Value) (w : World) (R : Value → World → Prop) : sx fn_ Tryd.prog 45 scope_Table_look_2_b (retK Tryd.prog Tryd.f97.results.toList R) (rho0 [a0, a1, a2]) w = scope_Table_look_2_F a0 a1 a2 w R := by kernel_rfl
theorem scope_Table_look_2_calls {a0 a1 a2 : Value} {w : World} {R : Value → World → Prop} (h : scope_Table_look_2_F a0 a1 a2 w R) : Calls Tryd.prog 97 #[a0, a1, a2] w fun e w' => ∃ v, e = .returned v ∧ R v w' :=
  Go.X.calls_of_sx (n := 45) (c := scope_Table_look_2_b) Tryd.func97 (by kernel_rfl) (by kernel_rfl) (Nat.le_of_ble_eq_true rfl) (by kernel_rfl) (Eq.mpr (scope_Table_look_2_eq a0 a1 a2 w R) h)
noncomputable def scope_Table_look_3_b : Code := (Tryd.f98.body).getD .skip
noncomputable def scope_Table_look_3_L0 : Code := cAt [1, 0, 1, 0, 0] scope_Table_look_3_b
noncomputable def scope_Table_look_3_R1 : Code := cAt [1, 1] scope_Table_look_3_b
noncomputable def scope_Table_look_3_R2 : Code := cAt [1, 0, 1, 0, 0, 1, 1, 0, 0, 1, 1, 1] scope_Table_look_3_b
noncomputable def scope_Table_look_3_R3 : Code := cAt [1, 0, 1, 0, 0, 1, 1, 0, 0, 1, 1, 0, 1, 0, 1] scope_Table_look_3_b
noncomputable def scope_Table_look_3_R4 : Code := cAt [1, 0, 1, 0, 0, 1, 1, 1] scope_Table_look_3_b
noncomputable def scope_Table_look_3_L5 : Code := cAt [1, 0, 1, 0, 0, 1, 1, 0, 0, 1, 1, 1, 0, 1, 0, 0] scope_Table_look_3_b
noncomputable def scope_Table_look_3_R6 : Code := cAt [1, 0, 1, 0, 0, 1, 1, 0, 0, 1, 1, 1, 1] scope_Table_look_3_b
noncomputable def scope_Table_look_3_L0_F (z : At) (K : Exit → Sl → World → Prop) (ρ : Sl) (w : World) : Prop :=
  BK Tryd.prog .lss 3 (.tmp 13) (.tmp 12) (ρ 13) (ρ 12) w fun x14 w => CondK x14 (VK Tryd.prog (Instr.indexAt 23 (ρ 11) (ρ 13)) w fun x15 w => VK Tryd.prog (Instr.loadAt 25 x15) w fun x16 w => VK Tryd.prog (Instr.alloc 25 true (.tuple #[])) w fun x7 w => UK Tryd.prog (Instr.storeAt 25 x7 x16) w fun _ w => VK Tryd.prog (Instr.fieldAt 25 x7 0) w fun x17 w => VK Tryd.prog (Instr.loadAt 5 x17) w fun x18 w => BK Tryd.prog .eql 5 (.tmp 18) (.const (Value.int .u8 1)) x18 (Value.int .u8 1) w fun x20 w => CondK x20 (sx z Tryd.prog 71 scope_Table_look_3_R3 (blkK 2 (seqK (sx z Tryd.prog 71 scope_Table_look_3_R2 (blkK 1 (seqK (sx z Tryd.prog 71 scope_Table_look_3_R4 K) K))) (blkK 1 (seqK (sx z Tryd.prog 71 scope_Table_look_3_R4 K) K)))) (up (up (up (up (up (up (up (up (up ρ 14 x14) 15 x15) 16 x16) 7 x7) 8 (Value.bool true)) 17 x17) 18 x18) 20 x20) 19 x20) w) (BK Tryd.prog .eql 5 (.tmp 18) (.const (Value.int .u8 5)) x18 (Value.int .u8 5) w fun x21 w => sx z Tryd.prog 71 scope_Table_look_3_R3 (blkK 2 (seqK (sx z Tryd.prog 71 scope_Table_look_3_R2 (blkK 1 (seqK (sx z Tryd.prog 71 scope_Table_look_3_R4 K) K))) (blkK 1 (seqK (sx z Tryd.prog 71 scope_Table_look_3_R4 K) K)))) (up (up (up (up (up (up (up (up (up (up (up ρ 14 x14) 15 x15) 16 x16) 7 x7) 8 (Value.bool true)) 17 x17) 18 x18) 20 x20) 19 x20) 21 x21) 19 x21) w)) (K (.exit 0) (up ρ 14 x14) w)
theorem scope_Table_look_3_L0_eq (z : At) (K : Exit → Sl → World → Prop) (ρ : Sl) (w : World) : sx z Tryd.prog 71 scope_Table_look_3_L0 K ρ w = scope_Table_look_3_L0_F z K ρ w := by kernel_rfl
theorem scope_Table_look_3_L0_ok : dstOk 71 scope_Table_look_3_L0 = true := by kernel_rfl
noncomputable def scope_Table_look_3_R1_F (z : At) (K : Exit → Sl → World → Prop) (ρ : Sl) (w : World) : Prop :=
  K .ret (up ρ 5 (Value.bool true)) w
theorem scope_Table_look_3_R1_eq (z : At) (K : Exit → Sl → World → Prop) (ρ : Sl) (w : World) : sx z Tryd.prog 71 scope_Table_look_3_R1 K ρ w = scope_Table_look_3_R1_F z K ρ w := by kernel_rfl
noncomputable def scope_Table_look_3_R2_F (z : At) (K : Exit → Sl → World → Prop) (ρ : Sl) (w : World) : Prop :=
  VK Tryd.prog (Instr.fieldAt 25 (ρ 7) 5) w fun x40 w => VK Tryd.prog (Instr.loadAt 22 x40) w fun x41 w => IK Tryd.prog .len #[22] 3 [false] [x41] w fun x42 w => W z Tryd.prog 71 (Code.loop scope_Table_look_3_L5) (blkK 3 (seqK (sx z Tryd.prog 71 scope_Table_look_3_R6 K) K)) (up (up (up (up ρ 40 x40) 41 x41) 42 x42) 43 (Value.int .i64 0)) w
theorem scope_Table_look_3_R2_eq (z : At) (K : Exit → Sl → World → Prop) (ρ : Sl) (w : World) : sx z Tryd.prog 71 scope_Table_look_3_R2 K ρ w = scope_Table_look_3_R2_F z K ρ w := by kernel_rfl
noncomputable def scope_Table_look_3_R3_F (z : At) (K : Exit → Sl → World → Prop) (ρ : Sl) (w : World) : Prop :=
  CondK (ρ 19) (VK Tryd.prog (Instr.loadAt 131 (ρ 1)) w fun x22 w => VK Tryd.prog (Instr.fieldAt 25 (ρ 7) 3) w fun x23 w => VK Tryd.prog (Instr.loadAt 9 x23) w fun x24 w => VK Tryd.prog (Instr.fieldAt 25 (ρ 7) 8) w fun x25 w => VK Tryd.prog (Instr.loadAt 3 x25) w fun x26 w => VK Tryd.prog (Instr.fieldAt 25 (ρ 7) 9) w fun x27 w => VK Tryd.prog (Instr.loadAt 3 x27) w fun x28 w => CK Tryd.prog x22 [x24, (Value.int .u8 1), x26, x28] w fun x29 w => K .normal (up (up (up (up (up (up (up (up (up ρ 22 x22) 23 x23) 24 x24) 25 x25) 26 x26) 27 x27) 28 x28) 29 x29) 8 x29) w) (BK Tryd.prog .eql 5 (.tmp 18) (.const (Value.int .u8 2)) (ρ 18) (Value.int .u8 2) w fun x31 w => CondK x31 (VK Tryd.prog (Instr.loadAt 131 (ρ 1)) w fun x32 w => VK Tryd.prog (Instr.fieldAt 25 (ρ 7) 3) w fun x33 w => VK Tryd.prog (Instr.loadAt 9 x33) w fun x34 w => VK Tryd.prog (Instr.fieldAt 25 (ρ 7) 8) w fun x35 w => VK Tryd.prog (Instr.loadAt 3 x35) w fun x36 w => VK Tryd.prog (Instr.fieldAt 25 (ρ 7) 9) w fun x37 w => VK Tryd.prog (Instr.loadAt 3 x37) w fun x38 w => CK Tryd.prog x32 [x34, (Value.int .u8 2), x36, x38] w fun x39 w => K .normal (up (up (up (up (up (up (up (up (up (up (up ρ 31 x31) 30 x31) 32 x32) 33 x33) 34 x34) 35 x35) 36 x36) 37 x37) 38 x38) 39 x39) 8 x39) w) (K .normal (up (up ρ 31 x31) 30 x31) w))
theorem scope_Table_look_3_R3_eq (z : At) (K : Exit → Sl → World → Prop) (ρ : Sl) (w : World) : sx z Tryd.prog 71 scope_Table_look_3_R3 K ρ w = scope_Table_look_3_R3_F z K ρ w := by kernel_rfl
noncomputable def scope_Table_look_3_R4_F (z : At) (K : Exit → Sl → World → Prop) (ρ : Sl) (w : World) : Prop :=
  BK Tryd.prog .add 3 (.tmp 13) (.const (Value.int .i64 1)) (ρ 13) (Value.int .i64 1) w fun x70 w => K .normal (up (up ρ 70 x70) 13 x70) w
theorem scope_Table_look_3_R4_eq (z : At) (K : Exit → Sl → World → Prop) (ρ : Sl) (w : World) : sx z Tryd.prog 71 scope_Table_look_3_R4 K ρ w = scope_Table_look_3_R4_F z K ρ w := by kernel_rfl
noncomputable def scope_Table_look_3_L5_F (z : At) (K : Exit → Sl → World → Prop) (ρ : Sl) (w : World) : Prop :=
  BK Tryd.prog .lss 3 (.tmp 43) (.tmp 42) (ρ 43) (ρ 42) w fun x44 w => CondK x44 (VK Tryd.prog (Instr.indexAt 22 (ρ 41) (ρ 43)) w fun x45 w => VK Tryd.prog (Instr.loadAt 29 x45) w fun x46 w => VK Tryd.prog (Instr.alloc 29 true (.tuple #[])) w fun x10 w => UK Tryd.prog (Instr.storeAt 29 x10 x46) w fun _ w => VG Tryd.prog (ρ 8) true (Instr.loadAt 98 (ρ 2)) w fun x49 w => VG Tryd.prog (ρ 8) true (Instr.loadAt 29 x10) w fun x50 w => CG Tryd.prog (ρ 8) true x49 [x50] w fun x51 w => PK Tryd.prog (ρ 8) x51 (Value.bool false) w fun x52 w => BK Tryd.prog .add 3 (.tmp 43) (.const (Value.int .i64 1)) (ρ 43) (Value.int .i64 1) w fun x53 w => K .normal (up (up (up (up (up (up (up (up (up (up (up (up (up ρ 44 x44) 45 x45) 46 x46) 10 x10) 47 (ρ 8)) 48 (ρ 8)) 49 x49) 50 x50) 51 x51) 52 x52) 8 x52) 53 x53) 43 x53) w) (K (.exit 3) (up ρ 44 x44) w)
theorem scope_Table_look_3_L5_eq (z : At) (K : Exit → Sl → World → Prop) (ρ : Sl) (w : World) : sx z Tryd.prog 71 scope_Table_look_3_L5 K ρ w = scope_Table_look_3_L5_F z K ρ w := by kernel_rfl
theorem scope_Table_look_3_L5_ok : dstOk 71 scope_Table_look_3_L5 = true := by kernel_rfl
noncomputable def scope_Table_look_3_R6_F (z : At) (K : Exit → Sl → World → Prop) (ρ : Sl) (w : World) : Prop :=
  VK Tryd.prog (Op.unary UnOp.not (ρ 8)) w fun x55 w => VG Tryd.prog x55 false (Instr.loadAt 48 (ρ 3)) w fun x57 w => VG Tryd.prog x55 false (Instr.fieldAt 25 (ρ 7) 6) w fun x58 w => VG Tryd.prog x55 false (Instr.loadAt 23 x58) w fun x59 w => CG Tryd.prog x55 false x57 [x59] w fun x60 w => VG Tryd.prog x55 false (Op.unary UnOp.not x60) w fun x61 w => PK Tryd.prog x55 (Value.bool true) x61 w fun x62 w => VG Tryd.prog x62 false (Instr.loadAt 48 (ρ 3)) w fun x64 w => VG Tryd.prog x62 false (Instr.fieldAt 25 (ρ 7) 7) w fun x65 w => VG Tryd.prog x62 false (Instr.loadAt 23 x65) w fun x66 w => CG Tryd.prog x62 false x64 [x66] w fun x67 w => VG Tryd.prog x62 false (Op.unary UnOp.not x67) w fun x68 w => PK Tryd.prog x62 (Value.bool true) x68 w fun x69 w => CondK x69 (K .ret (up (up (up (up (up (up (up (up (up (up (up (up (up (up (up (up (up ρ 54 (ρ 8)) 55 x55) 56 x55) 57 x57) 58 x58) 59 x59) 60 x60) 61 x61) 62 x62) 63 x62) 64 x64) 65 x65) 66 x66) 67 x67) 68 x68) 69 x69) 5 (Value.bool false)) w) (K .normal (up (up (up (up (up (up (up (up (up (up (up (up (up (up (up (up ρ 54 (ρ 8)) 55 x55) 56 x55) 57 x57) 58 x58) 59 x59) 60 x60) 61 x61) 62 x62) 63 x62) 64 x64) 65 x65) 66 x66) 67 x67) 68 x68) 69 x69) w)
theorem scope_Table_look_3_R6_eq (z : At) (K : Exit → Sl → World → Prop) (ρ : Sl) (w : World) : sx z Tryd.prog 71 scope_Table_look_3_R6 K ρ w = scope_Table_look_3_R6_F z K ρ w := by kernel_rfl
noncomputable def scope_Table_look_3_F (a0 a1 a2 a3 : Value) (w : World) (R : Value → World → Prop) : Prop :=
  IK Tryd.prog .len #[23] 3 [false] [a0] w fun x12 w => W fn_ Tryd.prog 71 (Code.loop scope_Table_look_3_L0) (blkK 0 (seqK (sx fn_ Tryd.prog 71 scope_Table_look_3_R1 (retK Tryd.prog [ResultVar.tmp 5] R)) (retK Tryd.prog [ResultVar.tmp 5] R))) (up (up (up (up (rho0 [a0, a1, a2, a3]) 5 (Value.bool false)) 11 a0) 12 x12) 13 (Value.int .i64 0)) w
theorem scope_Table_look_3_eq (a0 a1 a2 a3 : Value) (w : World) (R : Value → World → Prop) : sx fn_ Tryd.prog 71 scope_Table_look_3_b (retK Tryd.prog Tryd.f98.results.toList R) (rho0 [a0, a1, a2, a3]) w = scope_Table_look_3_F a0 a1 a2 a3 w R := by kernel_rfl
theorem scope_Table_look_3_calls {a0 a1 a2 a3 : Value} {w : World} {R : Value → World → Prop} (h : scope_Table_look_3_F a0 a1 a2 a3 w R) : Calls Tryd.prog 98 #[a0, a1, a2, a3] w fun e w' => ∃ v, e = .returned v ∧ R v w' :=
  Go.X.calls_of_sx (n := 71) (c := scope_Table_look_3_b) Tryd.func98 (by kernel_rfl) (by kernel_rfl) (Nat.le_of_ble_eq_true rfl) (by kernel_rfl) (Eq.mpr (scope_Table_look_3_eq a0 a1 a2 a3 w R) h)
noncomputable def scope_Check_b : Code := (Tryd.f45.body).getD .skip
noncomputable def scope_Check_F (a0 : Value) (w : World) (R : Value → World → Prop) : Prop :=
  VK Tryd.prog (Instr.box 34 a0) w fun x1 w => VK Tryd.prog (Instr.alloc 54 true (.tuple #[])) w fun x2 w => VK Tryd.prog (Instr.loadAt 34 x1) w fun x6 w => CK Tryd.prog (Value.func (Fn.func 73) #[] #[]) [x6] w fun x7 w => VK Tryd.prog (Instr.extract x7 0) w fun x8 w => VK Tryd.prog (Instr.extract x7 1) w fun x9 w => VK Tryd.prog (Instr.alloc 54 true (.tuple #[])) w fun x4 w => UK Tryd.prog (Instr.storeAt 54 x4 x9) w fun _ w => VK Tryd.prog (Instr.loadAt 54 x4) w fun x10 w => UK Tryd.prog (Instr.storeAt 54 x2 x10) w fun _ w => ∃ x2_1, (do loadVar 54 (← asAddr x2) : Sem Value).run Tryd.prog w = .ok x2_1 w ∧ R x2_1 w
theorem scope_Check_eq (a0 : Value) (w : World) (R : Value → World → Prop) : sx fn_ Tryd.prog 11 scope_Check_b (retK Tryd.prog Tryd.f45.results.toList R) (rho0 [a0]) w = scope_Check_F a0 w R := by kernel_rfl
theorem scope_Check_calls {a0 : Value} {w : World} {R : Value → World → Prop} (h : scope_Check_F a0 w R) : Calls Tryd.prog 45 #[a0] w fun e w' => ∃ v, e = .returned v ∧ R v w' :=
  Go.X.calls_of_sx (n := 11) (c := scope_Check_b) Tryd.func45 (by kernel_rfl) (by kernel_rfl) (Nat.le_of_ble_eq_true rfl) (by kernel_rfl) (Eq.mpr (scope_Check_eq a0 w R) h)
end Go.Proofs.YtpkfbaagpjdifaaDoor.XG
set_option linter.unusedVariables false
namespace Go.Proofs.YtpkfbaagpjdifaaDoor.XK
open Go Go.X
theorem fo124_2 {w : World} {K : Value → World → Prop} (a : Addr) : VK Tryd.prog (Instr.fieldAt 124 (.pointer (some a)) 2) w K = K (.pointer (some (a.add 2))) w := fo (by kernel_rfl) a
end Go.Proofs.YtpkfbaagpjdifaaDoor.XK
set_option linter.unusedVariables false
namespace Go.X
open Go Go.RowKit
section
variable {P : Program} {w : World} {K : Value → World → Prop}
theorem BKadd {t : TypeId} {ox oy : Operand} {x y : Value} {a b : Int} (hx : x = .int .i64 a) (hy : y = .int .i64 b) (h0 : -9223372036854775808 ≤ a + b) (h1 : a + b < 9223372036854775808) (hk : K (.int .i64 (a + b)) w) : BK P .add t ox oy x y w K := by
  rw [hx, hy, BK_add, wrap_i h0 h1]; exact hk
theorem BKlss {t : TypeId} {ox oy : Operand} {k : IntKind} {x y : Value} {a b : Int} (hx : x = .int k a) (hy : y = .int k b) (hk : K (.bool (decide (a < b))) w) : BK P .lss t ox oy x y w K := by
  rw [hx, hy, BK_lss]; exact hk
theorem BKgtr {t : TypeId} {ox oy : Operand} {k : IntKind} {x y : Value} {a b : Int} (hx : x = .int k a) (hy : y = .int k b) (hk : K (.bool (decide (b < a))) w) : BK P .gtr t ox oy x y w K := by
  rw [hx, hy, BK_gtr]; exact hk
theorem BKeqI {t : TypeId} {ox oy : Operand} {k : IntKind} {x y : Value} {a b : Int} (hx : x = .int k a) (hy : y = .int k b) (h1 : a = b → K (.bool true) w) (h2 : a ≠ b → K (.bool false) w) : BK P .eql t ox oy x y w K := by
  rw [hx, hy]; exact caseI h1 h2
theorem BKneI {t : TypeId} {ox oy : Operand} {k : IntKind} {x y : Value} {a b : Int} (hx : x = .int k a) (hy : y = .int k b) (h1 : a = b → K (.bool false) w) (h2 : a ≠ b → K (.bool true) w) : BK P .neq t ox oy x y w K := by
  rw [hx, hy, BK_neq]
  by_cases h : a = b
  · rw [show (a != b) = false by rw [h]; simp]; exact h1 h
  · rw [show (a != b) = true by simp [h]]; exact h2 h
theorem caseN {A B : Prop} {x : Value} {b : Bool} (hx : x = .bool b) (h1 : b = true → A) (h2 : b = false → B) : CondK x A B := by rw [hx]; exact caseC h1 h2
theorem stS {t ty : TypeId} {b : Nat} {old cs : Array Value} {x v : Value} (hx : x = .pointer (some ⟨b, 0, none⟩)) (hv : v = .agg cs) (hi : (P.info? t).map (·.size) = some cs.size) (ho : old.size = cs.size) (h1 : cs.all (·.oneCell') = true) (hb : w.heap[b]? = some (.cells old ty (0, 0)))
    (hk : ∀ w', w'.heap[b]? = some (.cells cs ty (0, 0)) → Mod (fun i => i = b) w w' → w'.heap.size = w.heap.size → K undef w') : UK P (Instr.storeAt t x v) w K := by
  rw [hx, hv]
  exact stB hi ho h1 hb (hk _ (setB_new _ _ _ (blk_lt hb)) ((Mod.refl _ w).set _ (fun _ => rfl)) (by rw [setB_size]))
theorem stC {t ty : TypeId} {b o : Nat} {cs : Array Value} {x v : Value} (hx : x = .pointer (some ⟨b, o, none⟩)) (hc1 : P.cellsOf t = 1) (hv : v.oneCell' = true) (hb : w.heap[b]? = some (.cells cs ty (0, 0))) (ho : o < cs.size)
    (hk : ∀ w', w'.heap[b]? = some (.cells (cs.setIfInBounds o v) ty (0, 0)) → Mod (fun i => i = b) w w' → w'.heap.size = w.heap.size → K undef w') : UK P (Instr.storeAt t x v) w K := by
  rw [hx]
  exact st1 hc1 hv hb ho (hk _ (setB_new _ _ _ (blk_lt hb)) ((Mod.refl _ w).set _ (fun _ => rfl)) (by rw [setB_size]))
theorem ldS {t ty : TypeId} {d : TypeDesc} {b : Nat} {cs : Array Value} {x : Value} (hx : x = .pointer (some ⟨b, 0, none⟩)) (hu : P.underlying t = some d) (hd : (match d with | .struct _ | .array _ _ => true | _ => false) = true) (hi : (P.info? t).map (·.size) = some cs.size) (hb : w.heap[b]? = some (.cells cs ty (0, 0))) (hk : K (.agg cs) w) : VK P (Instr.loadAt t x) w K := by
  rw [hx]
  exact ldB hu hd hi hb hk
theorem FAt.vs {t t' : TypeId} {i : Nat} {a : Addr} {v x : Value} {K : Value → Value → World → Prop} (h : FAt P w t i a t' v) (hx : x = .pointer (some a)) (hk : ∀ y, K y v w) : VK P (Instr.fieldAt t x i) w fun y w => VK P (Instr.loadAt t' y) w (K y) := by
  rw [hx]; exact h.vk' hk
theorem ldOne {t ty : TypeId} {d : TypeDesc} {b : Nat} {fr : Nat × Nat} {x v : Value} (hx : x = .pointer (some ⟨b, 0, none⟩)) (hu : P.underlying t = some d) (hd : (match d with | .struct _ | .array _ _ => true | _ => false) = false) (hb : w.heap[b]? = some (.cells #[v] ty fr)) (hk : K v w) : VK P (Instr.loadAt t x) w K := by
  rw [hx]; exact ld1 hu hd (by rw [cell_blk hb]; rfl) hk
theorem CK_eq {f g : Value} {as1 bs : List Value} (hf : f = g) (h : as1 = bs) (hk : CK P g bs w K) : CK P f as1 w K := by rw [hf, h]; exact hk
theorem rtCell {t ty : TypeId} {d : TypeDesc} {b i : Nat} {cs : Array Value} {R : Value → World → Prop} {ρ : Sl} (hx : ρ i = .pointer (some ⟨b, 0, none⟩)) (hu : P.underlying t = some d) (hd : (match d with | .struct _ | .array _ _ => true | _ => false) = true) (hi : (P.info? t).map (·.size) = some cs.size) (hb : w.heap[b]? = some (.cells cs ty (0, 0))) (hk : R (.agg cs) w) :
    retK P [ResultVar.cell i t] R .ret ρ w := by
  show ∃ v, (do loadVar t (← asAddr (ρ i)) : Sem Value).run P w = .ok v w ∧ R v w
  rw [hx]
  exact ⟨_, res_ld (run_ldB hu hd hi hb), hk⟩
theorem rtTC {t ty : TypeId} {d : TypeDesc} {b i j : Nat} {cs : Array Value} {R : Value → World → Prop} {ρ : Sl} (hx : ρ i = .pointer (some ⟨b, 0, none⟩)) (hu : P.underlying t = some d) (hd : (match d with | .struct _ | .array _ _ => true | _ => false) = true) (hi : (P.info? t).map (·.size) = some cs.size) (hb : w.heap[b]? = some (.cells cs ty (0, 0))) (hk : R (.tuple #[ρ j, .agg cs]) w) :
    retK P [ResultVar.tmp j, ResultVar.cell i t] R .ret ρ w := by
  show ∃ v, (do loadVar t (← asAddr (ρ i)) : Sem Value).run P w = .ok v w ∧ R (.tuple #[ρ j, v]) w
  rw [hx]
  exact ⟨_, res_ld (run_ldB hu hd hi hb), hk⟩
theorem rsCell {t ty : TypeId} {d : TypeDesc} {b : Nat} {cs : Array Value} {R : Value → World → Prop} {x : Value} (hx : x = .pointer (some ⟨b, 0, none⟩)) (hu : P.underlying t = some d) (hd : (match d with | .struct _ | .array _ _ => true | _ => false) = true) (hi : (P.info? t).map (·.size) = some cs.size) (hb : w.heap[b]? = some (.cells cs ty (0, 0))) (hk : R (.agg cs) w) :
    ∃ v, (do loadVar t (← asAddr x) : Sem Value).run P w = .ok v w ∧ R v w := by
  rw [hx]
  exact ⟨_, res_ld (run_ldB hu hd hi hb), hk⟩
end
end Go.X
set_option linter.unusedVariables false
set_option linter.unusedSimpArgs false
set_option maxRecDepth 4000
namespace Go.Proofs.YtpkfbaagpjdifaaDoor.Tr
open Go Go.X Go.RowKit Go.Proofs.YtpkfbaagpjdifaaDoor.XG Go.Proofs.YtpkfbaagpjdifaaDoor.XK
structure En where
  kind : Int
  slot : Int
  base : Int
  places : Int
def En.cells (e : En) : List Value := [.int .u8 e.kind, .int .i64 e.slot, .int .i64 e.base, .int .i64 e.places]
def En.v (e : En) : Value := .agg e.cells.toArray
def zEn : En := ⟨0, 0, 0, 0⟩
abbrev Key := List UInt8
def De.key (d : De) : Key := d.name.data.toList
def isV (d : De) : Bool := decide (d.places = 0)
def vars (l : List De) : Nat := (l.filter isV).length
def arrs (l : List De) : List Int := (l.filter fun d => !isV d).map De.places
def cellsP : List De → Int
  | [] => 0
  | d :: r => d.places + cellsP r
def nu (pre : List De) (d : De) : En := if d.places = 0 then ⟨1, vars pre, 0, 0⟩ else ⟨2, (arrs pre).length, cellsP pre, d.places⟩
def findF (pre : List De) : List De → Key → En
  | [], _ => zEn
  | d :: r, k => if d.key = k then nu pre d else findF (pre ++ [d]) r k
def findP (l : List De) (k : Key) : En := findF [] l k
theorem vars_snoc (l : List De) (d : De) : vars (l ++ [d]) = vars l + if isV d then 1 else 0 := by
  unfold vars; rw [List.filter_append, List.length_append]; congr 1; by_cases h : isV d <;> simp [h]
theorem arrs_snoc (l : List De) (d : De) : arrs (l ++ [d]) = arrs l ++ if isV d then [] else [d.places] := by
  unfold arrs; rw [List.filter_append, List.map_append]; congr 1; by_cases h : isV d <;> simp [h]
theorem cellsP_snoc (l : List De) (d : De) : cellsP (l ++ [d]) = cellsP l + d.places := by
  induction l with
  | nil => simp [cellsP]
  | cons a r ih => simp only [List.cons_append, cellsP, ih]; omega
theorem findF_no (k : Key) : ∀ (l1 pre l2 : List De), (∀ a ∈ l1, a.key ≠ k) → findF pre (l1 ++ l2) k = findF (pre ++ l1) l2 k
  | [], pre, l2, _ => by simp
  | d :: r, pre, l2, h => by
    rw [List.cons_append, findF, if_neg (h d (by simp)), findF_no k r _ _ (fun a ha => h a (List.mem_cons_of_mem _ ha)), List.append_assoc]
    rfl
theorem nu_kind (pre : List De) (d : De) : (nu pre d).kind ≠ 0 := by unfold nu; split <;> simp
theorem arrs_le (l : List De) : (arrs l).length ≤ l.length := by unfold arrs; rw [List.length_map]; exact List.length_filter_le _ _
theorem may_places {d : De} (h : d.may = true) : 0 ≤ d.places ∧ d.places ≤ 1000 := by
  unfold De.may at h
  simp only [Bool.and_eq_true, decide_eq_true_eq] at h
  exact ⟨h.1.2, h.2⟩
theorem cellsP_le {l : List De} (h : ∀ d ∈ l, d.may = true) : 0 ≤ cellsP l ∧ cellsP l ≤ 1000 * l.length := by
  induction l with
  | nil => simp [cellsP]
  | cons d r ih =>
    have h1 := may_places (h d (by simp))
    have h2 := ih (fun a ha => h a (List.mem_cons_of_mem _ ha))
    simp only [cellsP, List.length_cons]
    omega
theorem zEnt : (Tryd.prog.info? 130).bind (·.zero) = some (.agg zEn.cells.toArray) := by kernel_rfl
theorem iEnt : (Tryd.prog.info? 130).map (·.size) = some 4 := by kernel_rfl
theorem bEnt0 : Tryd.prog.built 130 [] = some zEn.cells.toArray := by kernel_rfl
theorem bEnt1 (n : Int) : Tryd.prog.built 130 [(0, .int .u8 1), (1, .int .i64 n)] = some (En.mk 1 n 0 0).cells.toArray := by kernel_rfl
theorem bEnt2 (a b c : Int) : Tryd.prog.built 130 [(0, .int .u8 2), (1, .int .i64 a), (2, .int .i64 b), (3, .int .i64 c)] = some (En.mk 2 a b c).cells.toArray := by kernel_rfl
theorem en_one (e : En) : (e.cells.toArray.all (·.oneCell')) = true := by simp [En.cells, Value.oneCell']
theorem uSt : Tryd.prog.underlying 9 = some .string := by kernel_rfl
end Go.Proofs.YtpkfbaagpjdifaaDoor.Tr
set_option linter.unusedVariables false
set_option linter.unusedSimpArgs false
set_option maxRecDepth 4000
namespace Go.Proofs.YtpkfbaagpjdifaaDoor.Tr
open Go Go.X Go.RowKit Go.Proofs.YtpkfbaagpjdifaaDoor.XG Go.Proofs.YtpkfbaagpjdifaaDoor.XK
structure Wr where
  err : Int
  line : Int
  col : Int
deriving DecidableEq
def Wr.cells (e : Wr) : List Value := [.int .i64 e.err, .int .i64 e.line, .int .i64 e.col]
def Wr.v (e : Wr) : Value := .agg e.cells.toArray
def zWr : Wr := ⟨0, 0, 0⟩
theorem zWrg : (Tryd.prog.info? 54).bind (·.zero) = some (.agg zWr.cells.toArray) := by kernel_rfl
theorem iWrg : (Tryd.prog.info? 54).map (·.size) = some 3 := by kernel_rfl
theorem bWr0 : Tryd.prog.built 54 [] = some zWr.cells.toArray := by kernel_rfl
theorem bWr1 (n : Int) : Tryd.prog.built 54 [(0, .int .i64 n)] = some (Wr.mk n 0 0).cells.toArray := by kernel_rfl
theorem bWr3 (n a b : Int) : Tryd.prog.built 54 [(0, .int .i64 n), (1, .int .i64 a), (2, .int .i64 b)] = some (Wr.mk n a b).cells.toArray := by kernel_rfl
theorem wr_one (e : Wr) : (e.cells.toArray.all (·.oneCell')) = true := by simp [Wr.cells, Value.oneCell']
theorem isU (w : World) : (isAgg 5).run Tryd.prog w = .ok false w := by unfold isAgg; rw [Sem.run_bind, run_underlying Tryd.underlying5 w]; rfl
theorem fldK {w : World} {K : Value → World → Prop} (e : En) : VK Tryd.prog (Instr.field 130 e.v 0) w K = K (.int .u8 e.kind) w := by
  refine VK_eq_of ?_
  unfold Instr.field
  simp [Sem.run_bind, run_underlying Tryd.underlying130, part, isU, En.v, En.cells, asAgg]
end Go.Proofs.YtpkfbaagpjdifaaDoor.Tr
namespace Go.X
open Go Go.Proofs.YtpkfbaagpjdifaaDoor.Tr
def Ex.bad (f : Key → Int) (e : Ex) : Bool := decide (e.op = 2 ∧ f e.name.data.toList ≠ 1) || decide (e.op = 3 ∧ f e.name.data.toList ≠ 2)
def St.bad (f : Key → Int) (e : St) : Bool := decide ((e.op = 1 ∨ e.op = 5) ∧ f e.name.data.toList ≠ 1) || decide (e.op = 2 ∧ f e.name.data.toList ≠ 2)
mutual
def Ex.wr (f : Key → Int) : Ex → Wr
  | ⟨op, num, name, s, args, line, col⟩ => if Ex.bad f ⟨op, num, name, s, args, line, col⟩ then ⟨40, line, col⟩ else Ex.wrL f args
def Ex.wrL (f : Key → Int) : List Ex → Wr
  | [] => zWr
  | e :: r => if (Ex.wr f e).err = 0 then Ex.wrL f r else Ex.wr f e
end
mutual
def St.wr (f : Key → Int) : St → Wr
  | ⟨op, kind, red, name, turns, es, exprs, bs, body, ls, els, line, col⟩ => if St.bad f ⟨op, kind, red, name, turns, es, exprs, bs, body, ls, els, line, col⟩ then ⟨40, line, col⟩ else
    if (Ex.wrL f exprs).err = 0 then (if (St.wrL f body).err = 0 then St.wrL f els else St.wrL f body) else Ex.wrL f exprs
def St.wrL (f : Key → Int) : List St → Wr
  | [] => zWr
  | e :: r => if (St.wr f e).err = 0 then St.wrL f r else St.wr f e
end
theorem Ex.wr_eq (f : Key → Int) (e : Ex) : e.wr f = if e.bad f then ⟨40, e.line, e.col⟩ else Ex.wrL f e.args := by obtain ⟨op, num, name, s, args, line, col⟩ := e; rw [Ex.wr]
theorem St.wr_eq (f : Key → Int) (e : St) : e.wr f = if e.bad f then ⟨40, e.line, e.col⟩ else if (Ex.wrL f e.exprs).err = 0 then (if (St.wrL f e.body).err = 0 then St.wrL f e.els else St.wrL f e.body) else Ex.wrL f e.exprs := by obtain ⟨op, kind, red, name, turns, es, exprs, bs, body, ls, els, line, col⟩ := e; rw [St.wr]
theorem Ex.wrL_all {f : Key → Int} : ∀ {l : List Ex}, (∀ a ∈ l, (a.wr f).err = 0) → Ex.wrL f l = zWr
  | [], _ => by rw [Ex.wrL]
  | e :: r, h => by rw [Ex.wrL, if_pos (h e (by simp)), Ex.wrL_all fun a ha => h a (List.mem_cons_of_mem _ ha)]
theorem St.wrL_all {f : Key → Int} : ∀ {l : List St}, (∀ a ∈ l, (a.wr f).err = 0) → St.wrL f l = zWr
  | [], _ => by rw [St.wrL]
  | e :: r, h => by rw [St.wrL, if_pos (h e (by simp)), St.wrL_all fun a ha => h a (List.mem_cons_of_mem _ ha)]
theorem Ex.wrL_at {f : Key → Int} : ∀ {l : List Ex} {n : Nat} {e : Ex}, l[n]? = some e → (∀ a ∈ l.take n, (a.wr f).err = 0) → (e.wr f).err ≠ 0 → Ex.wrL f l = e.wr f
  | [], n, e, h, _, _ => by simp at h
  | a :: r, 0, e, h, _, hb => by simp at h; subst h; rw [Ex.wrL, if_neg hb]
  | a :: r, n + 1, e, h, hn, hb => by
    rw [Ex.wrL, if_pos (hn a (by simp)), Ex.wrL_at (by simpa using h) (fun a ha => hn a (by simp; right; exact ha)) hb]
theorem St.wrL_at {f : Key → Int} : ∀ {l : List St} {n : Nat} {e : St}, l[n]? = some e → (∀ a ∈ l.take n, (a.wr f).err = 0) → (e.wr f).err ≠ 0 → St.wrL f l = e.wr f
  | [], n, e, h, _, _ => by simp at h
  | a :: r, 0, e, h, _, hb => by simp at h; subst h; rw [St.wrL, if_neg hb]
  | a :: r, n + 1, e, h, hn, hb => by
    rw [St.wrL, if_pos (hn a (by simp)), St.wrL_at (by simpa using h) (fun a ha => hn a (by simp; right; exact ha)) hb]
theorem Ex.wr_z {f : Key → Int} : ∀ e : Ex, (e.wr f).err = 0 → e.wr f = zWr := by
  intro e
  induction e using Ex.ind with
  | h e ih =>
    rw [Ex.wr_eq]
    split
    · intro h; simp at h
    · have : ∀ l : List Ex, (∀ a ∈ l, (a.wr f).err = 0 → a.wr f = zWr) → (Ex.wrL f l).err = 0 → Ex.wrL f l = zWr := by
        intro l
        induction l with
        | nil => intro _ _; rw [Ex.wrL]
        | cons a r ihr =>
          intro hl
          rw [Ex.wrL]
          split
          · exact ihr fun b hb => hl b (List.mem_cons_of_mem _ hb)
          · intro h; contradiction
      exact this e.args ih
theorem Ex.wrL_z {f : Key → Int} : ∀ l : List Ex, (Ex.wrL f l).err = 0 → Ex.wrL f l = zWr
  | [], _ => by rw [Ex.wrL]
  | a :: r, h => by
    rw [Ex.wrL] at h ⊢
    split at h
    · rename_i q; rw [if_pos q]; exact Ex.wrL_z r h
    · contradiction
theorem St.wrL_z {f : Key → Int} : ∀ l : List St, (∀ a ∈ l, (a.wr f).err = 0 → a.wr f = zWr) → (St.wrL f l).err = 0 → St.wrL f l = zWr
  | [], _, _ => by rw [St.wrL]
  | a :: r, hl, h => by
    rw [St.wrL] at h ⊢
    split at h
    · rename_i q; rw [if_pos q]; exact St.wrL_z r (fun b hb => hl b (List.mem_cons_of_mem _ hb)) h
    · contradiction
theorem St.wr_z {f : Key → Int} : ∀ e : St, (e.wr f).err = 0 → e.wr f = zWr := by
  intro e
  induction e using St.ind with
  | h e ih1 ih2 =>
    rw [St.wr_eq]
    split
    · intro h; simp at h
    · split
      · split
        · exact St.wrL_z _ ih2
        · intro h; contradiction
      · intro h; contradiction
end Go.X
set_option linter.unusedVariables false
set_option linter.unusedSimpArgs false
set_option maxRecDepth 4000
namespace Go.Proofs.YtpkfbaagpjdifaaDoor.Tr
open Go Go.X Go.RowKit Go.Proofs.YtpkfbaagpjdifaaDoor.XG Go.Proofs.YtpkfbaagpjdifaaDoor.XK
def kindP (l : List De) : Key → Int := fun k => (findP l k).kind
structure Decls (l : List De) : Prop where
  len : l.length ≤ 1099511627776
  may : ∀ d ∈ l, d.may = true
theorem uErrI : Tryd.prog.underlying 38 = some (.int .i64) := by kernel_rfl
end Go.Proofs.YtpkfbaagpjdifaaDoor.Tr
set_option linter.unusedVariables false
set_option linter.unusedSimpArgs false
set_option maxRecDepth 4000
namespace Go.Proofs.YtpkfbaagpjdifaaDoor.Tr
open Go Go.X Go.RowKit Go.Proofs.YtpkfbaagpjdifaaDoor.XG Go.Proofs.YtpkfbaagpjdifaaDoor.XK
end Go.Proofs.YtpkfbaagpjdifaaDoor.Tr
set_option linter.unusedVariables false
set_option linter.unusedSimpArgs false
set_option maxRecDepth 4000
namespace Go.Proofs.YtpkfbaagpjdifaaDoor.Tr
open Go Go.X Go.RowKit Go.Proofs.YtpkfbaagpjdifaaDoor.XG Go.Proofs.YtpkfbaagpjdifaaDoor.XK
def encK (k : Key) : Value := .string ⟨k.toArray⟩
theorem encK_of (b : ByteArray) : encK b.data.toList = .string b := by unfold encK; simp
theorem beqB (a b : Key) : ((⟨a.toArray⟩ : ByteArray) == ⟨b.toArray⟩) = decide (a = b) := by
  show ((a.toArray : Array UInt8) == b.toArray) = decide (a = b)
  by_cases h : a = b
  · subst h; simp
  · rw [decide_eq_false h]
    apply Bool.eq_false_iff.2
    intro q
    apply h
    have := eq_of_beq q
    simpa using this
theorem chkS (e : Bool) (n : Nat) (k : ByteArray) (w : World) : (Instr.checkKey e (n + 1) 9 (.string k)).run Tryd.prog w = .ok () w := by
  simp [Instr.checkKey, Sem.run_bind, run_underlying uSt]
theorem KT : KeyT Tryd.prog 9 encK where
  find := fun k l w => by
    have gen : ∀ (l : List (Ent Key)) (i : Nat), Instr.findNow .string (encK k) (l.map (Ent.enc encK)) i = some (findE k l i) := by
      intro l
      induction l with
      | nil => intro i; rfl
      | cons e r ih =>
        intro i
        simp only [List.map_cons, Instr.findNow, Ent.enc, encK, Instr.sameNow, beqB, findE]
        by_cases h : k = e.k
        · simp [h]
        · simp only [h, decide_false, if_false]
          exact ih (i + 1)
    unfold Instr.findKey
    rw [Sem.run_bind, run_underlying uSt]
    simp only [Result.andThen_ok, gen]
    rfl
  check := fun e k w => chkS e 9999 _ w
  bits := fun k => by
    show Instr.sameBits (9999 + 1) _ _ = true
    simp [encK, Instr.sameBits]
    show ((k.toArray : Array UInt8) == k.toArray) = true
    simp
  inj := fun a b h => by simpa [encK] using h
def valE (k : Key) (l : List (Ent Key)) : Value := match findE k l 0 with | some (_, v) => v | none => zEn.v
theorem uMap : Tryd.prog.underlying 121 = some (.map 9 130) := by kernel_rfl
theorem look_ok {w : World} {K : Value → World → Prop} {b : Nat} {l : List (Ent Key)} {c : Nat} (h : IsMap encK w b l c) (k : ByteArray) (hk : K (valE k.data.toList l) w) : VK Tryd.prog (Instr.lookup 121 (.map (some b)) (.string k) false) w K := by
  have hr := run_look KT uMap h zEnt k.data.toList false
  rw [encK_of] at hr
  refine VK_of hr ?_
  unfold valE at hk
  cases hf : findE k.data.toList l 0 with
  | none => rw [hf] at hk; exact hk
  | some p => obtain ⟨i, v⟩ := p; rw [hf] at hk; exact hk
structure TbAt (w : World) (base t : Nat) (ds : List De) : Prop where
  at' : ∃ nv av m l c, w.heap[t]? = some (.cells #[nv, .map (some m), .int .i64 (vars ds), av, .int .i64 (cellsP ds)] 124 (0, 0)) ∧
    IsMap encK w m l c ∧ (∀ k, valE k l = (findP ds k).v) ∧ base ≤ t ∧ base ≤ m ∧
    w.ownsRow base 9 1 nv ds.length (ds.map fun d => .string d.name) ∧ w.ownsRow base 3 1 av (arrs ds).length ((arrs ds).map (.int .i64))
end Go.Proofs.YtpkfbaagpjdifaaDoor.Tr
set_option linter.unusedVariables false
set_option linter.unusedSimpArgs false
set_option maxRecDepth 4000
namespace Go.Proofs.YtpkfbaagpjdifaaDoor.Tr
open Go Go.X Go.RowKit Go.Proofs.YtpkfbaagpjdifaaDoor.XG Go.Proofs.YtpkfbaagpjdifaaDoor.XK
theorem TbAt.mod {w w' : World} {base t : Nat} {ds : List De} (h : TbAt w base t ds) (hm : Mod none_ w w') : TbAt w' base t ds := by
  obtain ⟨nv, av, m, l, c, h1, h2, h3, h4, h5, h6, h7⟩ := h.at'
  exact ⟨⟨nv, av, m, l, c, hm.blk h1 id, h2.mod hm id, h3, h4, h5, owns_mod h6 hm (fun _ _ => id), owns_mod h7 hm (fun _ _ => id)⟩⟩
abbrev pt (b : Nat) : Value := .pointer (some ⟨b, 0, none⟩)
structure Cx where
  w0 : World
  base : Nat
  t : Nat
  x2 : Nat
  x5 : Nat
  x6 : Nat
  x7 : Nat
  x8 : Nat
  ds : List De
structure Clo (C : Cx) (r : Wr) (w : World) : Prop where
  m : Mod none_ C.w0 w
  tb : TbAt C.w0 C.base C.t C.ds
  b2 : w.heap[C.x2]? = some (.cells #[pt C.t] 107 (0, 0))
  b5 : w.heap[C.x5]? = some (.cells r.cells.toArray 54 (0, 0))
  b6 : w.heap[C.x6]? = some (.cells #[.func (.func 96) #[] #[pt C.x2, pt C.x5]] 131 (0, 0))
  b7 : w.heap[C.x7]? = some (.cells #[.func (.func 97) #[] #[pt C.x6, pt C.x7]] 98 (0, 0))
  b8 : w.heap[C.x8]? = some (.cells #[.func (.func 98) #[] #[pt C.x6, pt C.x7, pt C.x8]] 48 (0, 0))
  d : C.x2 ≠ C.x5 ∧ C.x6 ≠ C.x5 ∧ C.x7 ≠ C.x5 ∧ C.x8 ≠ C.x5 ∧ C.w0.heap.size ≤ C.x5
theorem Clo.step {C : Cx} {r : Wr} {w w' : World} (h : Clo C r w) (hm : Mod none_ w w') : Clo C r w' :=
  ⟨h.m.trans hm, h.tb, hm.blk h.b2 id, hm.blk h.b5 id, hm.blk h.b6 id, hm.blk h.b7 id, hm.blk h.b8 id, h.d⟩
theorem Clo.put {C : Cx} {r r' : Wr} {w w' : World} (h : Clo C r w) (hm : Mod (fun i => i = C.x5) w w') (hb : w'.heap[C.x5]? = some (.cells r'.cells.toArray 54 (0, 0))) : Clo C r' w' :=
  ⟨h.m.then hm (fun i hi q => by have := h.d.2.2.2.2; omega), h.tb, hm.blk h.b2 h.d.1, hb, hm.blk h.b6 h.d.2.1, hm.blk h.b7 h.d.2.2.1, hm.blk h.b8 h.d.2.2.2.1, h.d⟩
theorem uMp : Tryd.prog.underlying 121 = some (.map 9 130) := by kernel_rfl
theorem must_ok {C : Cx} {w : World} (h : Clo C zWr w) (k : ByteArray) (kd l c : Int) :
    Rt Tryd.prog 96 #[.string k, .int .u8 kd, .int .i64 l, .int .i64 c, pt C.x2, pt C.x5] w fun v w' => v = .bool (decide (kindP C.ds k.data.toList = kd)) ∧ Clo C (if kindP C.ds k.data.toList = kd then zWr else ⟨40, l, c⟩) w' ∧ Mod (fun i => i = C.x5) w w' := by
  obtain ⟨nv, av, m, es, ck, h1, h2, h3, h4, h5, h6, h7⟩ := (h.tb.mod h.m).at'
  refine scope_Table_look_1_calls ?_
  unfold scope_Table_look_1_F
  refine ldOne rfl Tryd.underlying107 rfl h.b2 ?_
  rw [NK_ptr]
  have f1 : FAt Tryd.prog w 124 1 ⟨C.t, 0, none⟩ 121 (.map (some m)) := FAt.mk' (off := 1) (by kernel_rfl) uMp rfl (by rw [add_pl, cell_blk h1]; rfl)
  refine f1.vk' fun x13 => ?_
  refine look_ok h2 k ?_
  rw [h3, fldK]
  have fin : ∀ (ρ' : Sl) (w' : World) (r : Wr), Clo C r w' → Mod (fun i => i = C.x5) w w' → ρ' 5 = pt C.x5 → (r = if kindP C.ds k.data.toList = kd then zWr else ⟨40, l, c⟩) →
      sx fn_ Tryd.prog 26 scope_Table_look_1_R0 (retK Tryd.prog [ResultVar.tmp 10] fun v w' => v = .bool (decide (kindP C.ds k.data.toList = kd)) ∧ Clo C (if kindP C.ds k.data.toList = kd then zWr else ⟨40, l, c⟩) w' ∧ Mod (fun i => i = C.x5) w w') ρ' w' := by
    intro ρ' w' r hc hmm q5 hr
    have g0 : FAt Tryd.prog w' 54 0 ⟨C.x5, 0, none⟩ 38 (.int .i64 r.err) := FAt.mk' (off := 0) (by kernel_rfl) uErrI rfl (by rw [add_pl, cell_blk hc.b5]; rfl)
    rw [scope_Table_look_1_R0_eq]
    unfold scope_Table_look_1_R0_F
    rw [q5]
    refine g0.vk' fun x23 => ?_
    rw [BK_eql]
    refine ⟨?_, hr ▸ hc, hmm⟩
    show Value.bool _ = _
    rw [hr]
    by_cases q : kindP C.ds k.data.toList = kd <;> simp [q, zWr]
  refine BKneI (a := kindP C.ds k.data.toList) (b := kd) rfl rfl (fun hq => condF ?_) (fun hq => condT ?_)
  · exact fin _ w zWr h (Mod.refl _ _) rfl (by rw [if_pos hq])
  · rw [build_ok (bWr3 _ _ _)]
    refine stS (b := C.x5) (old := zWr.cells.toArray) (cs := (Wr.mk 40 l c).cells.toArray) rfl rfl iWrg rfl (wr_one _) h.b5 fun w2 hb2 hm2 _ => ?_
    exact fin _ w2 ⟨40, l, c⟩ (h.put hm2 hb2) hm2 rfl (by rw [if_neg hq])
theorem exprC_ok {C : Cx} : ∀ (e : Ex) (w : World), Clo C zWr w → e.Ok C.w0 → e.sz ≤ 1099511627776 →
    Rt Tryd.prog 97 #[.agg e.cells.toArray, pt C.x6, pt C.x7] w fun v w' => v = .bool (decide ((e.wr (kindP C.ds)).err = 0)) ∧ Clo C (e.wr (kindP C.ds)) w' ∧ Mod (fun i => i = C.x5) w w' := by
  intro e
  induction e using Ex.ind with
  | h e ih =>
    intro w hC hok hsz
    obtain ⟨A, c, hs, _⟩ := reads_cap hok.args.1
    have hszL : Ex.szL e.args ≤ 1099511627776 := by rw [Ex.sz_eq] at hsz; omega
    have hlen := Ex.len_sz e.args
    have hwr := Ex.wr_eq (kindP C.ds) e
    refine scope_Table_look_2_calls ?_
    unfold scope_Table_look_2_F
    refine box_k (cs := e.cells.toArray) rfl fun w1 hb1 hm1 hz1 => ?_
    have hC1 := hC.step hm1
    have hx5 : C.x5 < w.heap.size := blk_lt hC.b5
    generalize hbe : w.heap.size = be at *
    have d0 : FAt Tryd.prog w1 29 0 ⟨be, 0, none⟩ 5 (.int .u8 e.op) := FAt.mk' (off := 0) (by kernel_rfl) uU8 rfl (by rw [add_pl, cell_blk hb1]; rfl)
    have d2 : FAt Tryd.prog w1 29 2 ⟨be, 0, none⟩ 9 (.string e.name) := FAt.mk' (off := 2) (by kernel_rfl) uSt rfl (by rw [add_pl, cell_blk hb1]; rfl)
    have d4 : FAt Tryd.prog w1 29 4 ⟨be, 0, none⟩ 3 (.int .i64 e.line) := FAt.mk' (off := 4) (by kernel_rfl) uI rfl (by rw [add_pl, cell_blk hb1]; rfl)
    have d5 : FAt Tryd.prog w1 29 5 ⟨be, 0, none⟩ 3 (.int .i64 e.col) := FAt.mk' (off := 5) (by kernel_rfl) uI rfl (by rw [add_pl, cell_blk hb1]; rfl)
    have r0 : ∀ (ρ' : Sl) (w2 : World) (r : Wr), Clo C r w2 → Mod (fun i => i = C.x5) w w2 → w2.heap[be]? = some (.cells e.cells.toArray 29 (0, 0)) → ρ' 3 = pt be → ρ' 2 = pt C.x7 → ρ' 5 = .bool (decide (r.err = 0)) → (r.err = 0 → r = zWr ∧ e.bad (kindP C.ds) = false) → (r.err ≠ 0 → e.wr (kindP C.ds) = r) →
        sx fn_ Tryd.prog 45 scope_Table_look_2_R0 (retK Tryd.prog [ResultVar.tmp 4] fun v w' => v = .bool (decide ((e.wr (kindP C.ds)).err = 0)) ∧ Clo C (e.wr (kindP C.ds)) w' ∧ Mod (fun i => i = C.x5) w w') ρ' w2 := by
      intro ρ' w2 r hC2 hmm hb2 q3 q2 q5 hr0 hr1
      rw [scope_Table_look_2_R0_eq]
      unfold scope_Table_look_2_R0_F
      have f3 : FAt Tryd.prog w2 29 3 ⟨be, 0, none⟩ 22 (.slice A e.args.length c) := FAt.mk' (off := 3) (by kernel_rfl) uExs rfl (by rw [add_pl, cell_blk hb2, ← hs]; rfl)
      refine f3.vs q3 fun x30 => ?_
      rw [len22]
      refine W_loop scope_Table_look_2_L1_ok (fun ρ w' => ∃ (n : Nat) (r : Wr), n ≤ e.args.length ∧ ρ 33 = .int .i64 n ∧ ρ 32 = .int .i64 e.args.length ∧ ρ 31 = .slice A e.args.length c ∧ ρ 2 = pt C.x7 ∧ ρ 5 = .bool (decide (r.err = 0)) ∧ Clo C r w' ∧ Mod (fun i => i = C.x5) w w' ∧ (r.err = 0 → r = zWr ∧ e.bad (kindP C.ds) = false ∧ ∀ a ∈ e.args.take n, (a.wr (kindP C.ds)).err = 0) ∧ (r.err ≠ 0 → e.wr (kindP C.ds) = r)) (fun ρ _ => e.args.length - (intOf (ρ 33)).toNat)
        ⟨0, r, Nat.zero_le _, rfl, rfl, rfl, q2, q5, hC2, hmm, fun q => ⟨(hr0 q).1, (hr0 q).2, by simp⟩, hr1⟩ ?_
      rintro ρ w3 ⟨n, r, hn, h33, h32, h31, h2, h5, hC3, hm3, g0, g1⟩
      rw [scope_Table_look_2_L1_eq]
      unfold scope_Table_look_2_L1_F
      rw [h33, h32, h31]
      refine BKlss (a := n) (b := e.args.length) rfl rfl ?_
      by_cases hlt : n < e.args.length
      · rw [show decide ((n : Int) < (e.args.length : Int)) = true by rw [decide_eq_true_eq]; omega]
        refine condT ?_
        have hx : e.args[n]? = some e.args[n] := List.getElem?_eq_getElem hlt
        have hmem : e.args[n] ∈ e.args := List.getElem_mem hlt
        have hok3 := hok.args.mod hC3.m
        rw [hs] at hok3
        have hs2 := Ex.szL_at hx
        refine ixEx hok3 hx fun y => ?_
        refine lcl_k (cs := e.args[n].cells.toArray) zEx _ iEx rfl (ex_one (hok3.at hx)) fun w4 hb4 hm4 _ => ?_
        have hC4 := hC3.step hm4
        generalize w3.heap.size = b7 at *
        rw [h5]
        by_cases hz : r.err = 0
        · obtain ⟨rfl, hbad, hall⟩ := g0 hz
          rw [show decide (zWr.err = 0) = true from rfl]
          simp only [CondK_bool, MG_u, NG_u, VG_u, UG_u, PG_u, BG_u, CG_u, IG_u, MG_b, NG_b, VG_b, UG_b, PG_b, BG_b, CG_b, IG_b, PK_bool, NK_ptr, not_ok, reduceCtorEq, if_true, if_false, Bool.true_eq_false, Bool.false_eq_true, Bool.not_true, Bool.not_false]
          refine ldOne h2 Tryd.underlying98 rfl hC4.b7 ?_
          refine ldS (cs := e.args[n].cells.toArray) rfl Tryd.underlying29 rfl iEx hb4 ?_
          refine CK_fn (f := 97) (first := #[]) (cap := #[pt C.x6, pt C.x7]) (args := [.agg e.args[n].cells.toArray]) Tryd.func97 rfl rfl (ih _ hmem w4 hC4 (hok.args.2 _ hmem) (by omega)) ?_
          rintro _ w5 ⟨rfl, hC5, hm5⟩
          refine BKadd (a := n) (b := 1) rfl rfl (by omega) (by omega) ?_
          refine ⟨⟨n + 1, e.args[n].wr (kindP C.ds), hlt, rfl, h32, h31, ?_, rfl, hC5, ((hm3.trans (hm4.mono fun _ _ q => q.elim)).trans hm5), fun q => ⟨Ex.wr_z _ q, hbad, ?_⟩, fun q => ?_⟩, ?_⟩
          · exact h2
          · rw [List.take_add_one, hx, Option.toList_some]
            intro a ha
            rcases List.mem_append.1 ha with ha | ha
            · exact hall a ha
            · rw [List.mem_singleton.1 ha]; exact q
          · rw [hwr, hbad, ← Ex.wrL_at hx hall q]; rfl
          · show e.args.length - (intOf (Value.int .i64 ((n : Int) + 1))).toNat < _
            simp only [intOf]; omega
        · rw [decide_eq_false hz]
          simp only [CondK_bool, MG_u, NG_u, VG_u, UG_u, PG_u, BG_u, CG_u, IG_u, MG_b, NG_b, VG_b, UG_b, PG_b, BG_b, CG_b, IG_b, PK_bool, NK_ptr, not_ok, reduceCtorEq, if_true, if_false, Bool.true_eq_false, Bool.false_eq_true, Bool.not_true, Bool.not_false]
          refine BKadd (a := n) (b := 1) rfl rfl (by omega) (by omega) ?_
          refine ⟨⟨n + 1, r, hlt, rfl, h32, h31, ?_, ?_, hC4, (hm3.trans (hm4.mono fun _ _ q => q.elim)), fun q => absurd q hz, g1⟩, ?_⟩
          · exact h2
          · show Value.bool false = _
            rw [decide_eq_false hz]
          · show e.args.length - (intOf (Value.int .i64 ((n : Int) + 1))).toNat < _
            simp only [intOf]; omega
      · obtain rfl : n = e.args.length := by omega
        rw [show decide (((e.args.length : Nat) : Int) < (e.args.length : Int)) = false by simp]
        refine condF ?_
        rw [sq_x, bk_x, sq_n, scope_Table_look_2_R2_eq]
        unfold scope_Table_look_2_R2_F
        have hfin : e.wr (kindP C.ds) = r := by
          by_cases hz : r.err = 0
          · obtain ⟨rfl, hbad, hall⟩ := g0 hz
            rw [List.take_length] at hall
            rw [hwr, hbad, ← Ex.wrL_all hall]; rfl
          · exact g1 hz
        refine ⟨?_, ?_, hm3⟩
        · show ρ 5 = _
          rw [h5, hfin]
        · rw [hfin]; exact hC3
    refine d0.vk' fun x8 => ?_
    refine caseI (fun k2 => condT ?_) (fun k2 => condF ?_)
    · refine ldOne rfl Tryd.underlying131 rfl hC1.b6 ?_
      refine d2.vk' fun x13 => d4.vk' fun x15 => d5.vk' fun x17 => ?_
      refine CK_fn (f := 96) (first := #[]) (cap := #[pt C.x2, pt C.x5]) (args := [.string e.name, .int .u8 1, .int .i64 e.line, .int .i64 e.col]) Tryd.func96 rfl rfl (must_ok hC1 e.name 1 e.line e.col) ?_
      rintro v w2 ⟨rfl, hC2, hm2⟩
      have hb2 := hm2.blk hb1 (by omega)
      have hmm := (hm1.mono (S' := fun i => i = C.x5) fun _ _ q => q.elim).trans hm2
      refine r0 _ w2 _ hC2 hmm hb2 rfl rfl ?_ ?_ ?_
      · show Value.bool _ = _
        by_cases q : kindP C.ds e.name.data.toList = 1 <;> simp [q, zWr]
      · intro q
        by_cases q1 : kindP C.ds e.name.data.toList = 1
        · rw [if_pos q1]
          refine ⟨rfl, ?_⟩
          unfold Ex.bad; rw [k2, q1]; rfl
        · rw [if_neg q1] at q; simp at q
      · intro q
        by_cases q1 : kindP C.ds e.name.data.toList = 1
        · rw [if_pos q1] at q; exact absurd rfl q
        · rw [if_neg q1, hwr, if_pos]
          unfold Ex.bad; rw [decide_eq_true ⟨k2, q1⟩]; rfl
    · refine caseI (fun k3 => condT ?_) (fun k3 => condF ?_)
      · refine ldOne rfl Tryd.underlying131 rfl hC1.b6 ?_
        refine d2.vk' fun x13 => d4.vk' fun x15 => d5.vk' fun x17 => ?_
        refine CK_fn (f := 96) (first := #[]) (cap := #[pt C.x2, pt C.x5]) (args := [.string e.name, .int .u8 2, .int .i64 e.line, .int .i64 e.col]) Tryd.func96 rfl rfl (must_ok hC1 e.name 2 e.line e.col) ?_
        rintro v w2 ⟨rfl, hC2, hm2⟩
        have hb2 := hm2.blk hb1 (by omega)
        have hmm := (hm1.mono (S' := fun i => i = C.x5) fun _ _ q => q.elim).trans hm2
        refine r0 _ w2 _ hC2 hmm hb2 rfl rfl ?_ ?_ ?_
        · show Value.bool _ = _
          by_cases q : kindP C.ds e.name.data.toList = 2 <;> simp [q, zWr]
        · intro q
          by_cases q1 : kindP C.ds e.name.data.toList = 2
          · rw [if_pos q1]
            refine ⟨rfl, ?_⟩
            unfold Ex.bad; rw [k3, q1]; rfl
          · rw [if_neg q1] at q; simp at q
        · intro q
          by_cases q1 : kindP C.ds e.name.data.toList = 2
          · rw [if_pos q1] at q; exact absurd rfl q
          · rw [if_neg q1, hwr, if_pos]
            unfold Ex.bad; rw [decide_eq_true (⟨k3, q1⟩ : e.op = 3 ∧ kindP C.ds e.name.data.toList ≠ 2), Bool.or_true]
      · refine r0 _ w1 zWr hC1 (hm1.mono fun _ _ q => q.elim) hb1 rfl rfl rfl ?_ fun q => absurd rfl q
        intro _
        refine ⟨rfl, ?_⟩
        unfold Ex.bad
        simp [k2, k3]
end Go.Proofs.YtpkfbaagpjdifaaDoor.Tr
set_option linter.unusedVariables false
set_option linter.unusedSimpArgs false
set_option maxRecDepth 4000
namespace Go.Proofs.YtpkfbaagpjdifaaDoor.Tr
open Go Go.X Go.RowKit Go.Proofs.YtpkfbaagpjdifaaDoor.XG Go.Proofs.YtpkfbaagpjdifaaDoor.XK
def StC (C : Cx) (l : List St) : Prop := ∀ (w : World) (v : Value), Clo C zWr w → StsOk C.w0 v l → St.szL l ≤ 1099511627776 →
  Rt Tryd.prog 98 #[v, pt C.x6, pt C.x7, pt C.x8] w fun v w' => v = .bool (decide ((St.wrL (kindP C.ds) l).err = 0)) ∧ Clo C (St.wrL (kindP C.ds) l) w' ∧ Mod (fun i => i = C.x5) w w'
theorem up0 {S : Nat → Prop} {w w' : World} (h : Mod none_ w w') : Mod S w w' := h.mono fun _ _ q => q.elim
theorem stC_row {C : Cx} {l : List St} (ih : ∀ a ∈ l, StC C a.body ∧ StC C a.els) : StC C l := by
  intro w v hC hok hsz
  obtain ⟨A, c, hs, _⟩ := reads_cap hok.1
  have hlen := St.len_sz l
  refine scope_Table_look_3_calls ?_
  unfold scope_Table_look_3_F
  rw [hs, len23]
  refine W_loop scope_Table_look_3_L0_ok (fun ρ w' => ∃ n : Nat, n ≤ l.length ∧ ρ 13 = .int .i64 n ∧ ρ 12 = .int .i64 l.length ∧ ρ 11 = .slice A l.length c ∧ ρ 1 = pt C.x6 ∧ ρ 2 = pt C.x7 ∧ ρ 3 = pt C.x8 ∧ (∀ a ∈ l.take n, (a.wr (kindP C.ds)).err = 0) ∧ Clo C zWr w' ∧ Mod (fun i => i = C.x5) w w') (fun ρ _ => l.length - (intOf (ρ 13)).toNat)
    ⟨0, Nat.zero_le _, rfl, rfl, rfl, rfl, rfl, rfl, by simp, hC, Mod.refl _ _⟩ ?_
  rintro ρ w2 ⟨n, hn, h13, h12, h11, h1, h2, h3, hall, hC2, hm⟩
  have h : ∀ K : Exit → Sl → World → Prop, (∀ ρ' w', n < l.length → ρ' 13 = .int .i64 ((n : Int) + 1) → ρ' 12 = .int .i64 l.length → ρ' 11 = .slice A l.length c → ρ' 1 = pt C.x6 → ρ' 2 = pt C.x7 → ρ' 3 = pt C.x8 → (∀ a ∈ l.take (n + 1), (a.wr (kindP C.ds)).err = 0) → Clo C zWr w' → Mod (fun i => i = C.x5) w w' → K .normal ρ' w') →
      (∀ ρ' w', ρ' 5 = .bool false → (St.wrL (kindP C.ds) l).err ≠ 0 → Clo C (St.wrL (kindP C.ds) l) w' → Mod (fun i => i = C.x5) w w' → K .ret ρ' w') →
      (∀ ρ', n = l.length → K (.exit 0) ρ' w2) → sx fn_ Tryd.prog 71 scope_Table_look_3_L0 K ρ w2 := by
    intro K kN kR kX
    rw [scope_Table_look_3_L0_eq]
    unfold scope_Table_look_3_L0_F
    rw [h13, h12, h11]
    refine BKlss (a := n) (b := l.length) rfl rfl ?_
    by_cases hlt : n < l.length
    · rw [show decide ((n : Int) < (l.length : Int)) = true by rw [decide_eq_true_eq]; omega]
      refine condT ?_
      have hx : l[n]? = some l[n] := List.getElem?_eq_getElem hlt
      have hmem : l[n] ∈ l := List.getElem_mem hlt
      have hok2 := hok.mod hC2.m
      rw [hs] at hok2
      refine ixSt hok2 hx fun y => ?_
      have hoke := hok.2 _ hmem
      have hsn := St.szL_at hx
      have hsz2 := St.sz_eq l[n]
      obtain ⟨ihB, ihE⟩ := ih _ hmem
      refine lcl_k (cs := l[n].cells.toArray) zSt _ iSt rfl (st_one (hok2.at hx)) fun w3 hb3 hm3 hz3 => ?_
      have hC3 := hC2.step hm3
      have hm03 := hm.trans (up0 hm3)
      have hx5 : C.x5 < w2.heap.size := blk_lt hC2.b5
      generalize w2.heap.size = bS at *
      clear hok2 hm3 hz3 hC2 hm
      have d0 : FAt Tryd.prog w3 25 0 ⟨bS, 0, none⟩ 5 (.int .u8 l[n].op) := FAt.mk' (off := 0) (by kernel_rfl) uU8 rfl (by rw [add_pl, cell_blk hb3]; rfl)
      have d3 : FAt Tryd.prog w3 25 3 ⟨bS, 0, none⟩ 9 (.string l[n].name) := FAt.mk' (off := 3) (by kernel_rfl) uSt rfl (by rw [add_pl, cell_blk hb3]; rfl)
      have d8 : FAt Tryd.prog w3 25 8 ⟨bS, 0, none⟩ 3 (.int .i64 l[n].line) := FAt.mk' (off := 8) (by kernel_rfl) uI rfl (by rw [add_pl, cell_blk hb3]; rfl)
      have d9 : FAt Tryd.prog w3 25 9 ⟨bS, 0, none⟩ 3 (.int .i64 l[n].col) := FAt.mk' (off := 9) (by kernel_rfl) uI rfl (by rw [add_pl, cell_blk hb3]; rfl)
      have hwr := St.wr_eq (kindP C.ds) l[n]
      have ans : (l[n].wr (kindP C.ds)).err ≠ 0 → St.wrL (kindP C.ds) l = l[n].wr (kindP C.ds) := St.wrL_at hx hall
      -- behind the expressions
      have r6 : ∀ (ρ' : Sl) (w4 : World) (r : Wr), Clo C r w4 → Mod (fun i => i = C.x5) w w4 → w4.heap[bS]? = some (.cells l[n].cells.toArray 25 (0, 0)) → ρ' 8 = .bool (decide (r.err = 0)) → ρ' 13 = .int .i64 n → ρ' 12 = .int .i64 l.length → ρ' 11 = .slice A l.length c → ρ' 1 = pt C.x6 → ρ' 2 = pt C.x7 → ρ' 3 = pt C.x8 → ρ' 7 = pt bS →
          (r.err = 0 → r = zWr ∧ l[n].bad (kindP C.ds) = false ∧ (Ex.wrL (kindP C.ds) l[n].exprs).err = 0) → (r.err ≠ 0 → l[n].wr (kindP C.ds) = r) →
          sx fn_ Tryd.prog 71 scope_Table_look_3_R6 (blkK 1 (seqK (sx fn_ Tryd.prog 71 scope_Table_look_3_R4 K) K)) ρ' w4 := by
        intro ρ' w4 r hC4 hm4 hb4 q8 q13 q12 q11 q1 q2 q3 q7 g0 g1
        rw [scope_Table_look_3_R6_eq]
        unfold scope_Table_look_3_R6_F
        have f6 : ∀ w', w'.heap[bS]? = some (.cells l[n].cells.toArray 25 (0, 0)) → FAt Tryd.prog w' 25 6 ⟨bS, 0, none⟩ 23 l[n].bs := fun w' hb => FAt.mk' (off := 6) (by kernel_rfl) uSts rfl (by rw [add_pl, cell_blk hb]; rfl)
        have f7 : ∀ w', w'.heap[bS]? = some (.cells l[n].cells.toArray 25 (0, 0)) → FAt Tryd.prog w' 25 7 ⟨bS, 0, none⟩ 23 l[n].ls := fun w' hb => FAt.mk' (off := 7) (by kernel_rfl) uSts rfl (by rw [add_pl, cell_blk hb]; rfl)
        have bad : ∀ (ρ2 : Sl) (w5 : World) (r : Wr), ρ2 5 = .bool false → r.err ≠ 0 → l[n].wr (kindP C.ds) = r → Clo C r w5 → Mod (fun i => i = C.x5) w w5 → (blkK 1 (seqK (sx fn_ Tryd.prog 71 scope_Table_look_3_R4 K) K)) .ret ρ2 w5 := by
          intro ρ2 w5 r q5 hz hr hC5 hm5
          rw [bk_r, sq_r]
          have e := ans (by rw [hr]; exact hz)
          rw [hr] at e
          exact kR _ _ q5 (by rw [e]; exact hz) (by rw [e]; exact hC5) hm5
        have good : ∀ (ρ2 : Sl) (w5 : World), (l[n].wr (kindP C.ds)).err = 0 → ρ2 13 = .int .i64 n → ρ2 12 = .int .i64 l.length → ρ2 11 = .slice A l.length c → ρ2 1 = pt C.x6 → ρ2 2 = pt C.x7 → ρ2 3 = pt C.x8 → Clo C zWr w5 → Mod (fun i => i = C.x5) w w5 → (blkK 1 (seqK (sx fn_ Tryd.prog 71 scope_Table_look_3_R4 K) K)) .normal ρ2 w5 := by
          intro ρ2 w5 hz q13 q12 q11 q1 q2 q3 hC5 hm5
          rw [bk_n, sq_n, scope_Table_look_3_R4_eq]
          unfold scope_Table_look_3_R4_F
          refine BKadd (a := n) (b := 1) q13 rfl (by omega) (by omega) ?_
          refine kN _ _ hlt rfl q12 q11 q1 q2 q3 ?_ hC5 hm5
          rw [List.take_add_one, hx, Option.toList_some]
          intro a ha
          rcases List.mem_append.1 ha with ha | ha
          · exact hall a ha
          · rw [List.mem_singleton.1 ha]; exact hz
        rw [q8, not_ok]
        by_cases hz : r.err = 0
        · obtain ⟨rfl, hbad, hex⟩ := g0 hz
          rw [hbad, if_neg (by simp), if_pos hex] at hwr
          rw [show (!decide (zWr.err = 0)) = false from rfl]
          simp only [CondK_bool, MG_u, NG_u, VG_u, UG_u, PG_u, BG_u, CG_u, IG_u, MG_b, NG_b, VG_b, UG_b, PG_b, BG_b, CG_b, IG_b, PK_bool, NK_ptr, not_ok, reduceCtorEq, if_true, if_false, Bool.true_eq_false, Bool.false_eq_true, Bool.not_true, Bool.not_false]
          refine ldOne q3 Tryd.underlying48 rfl hC4.b8 ?_
          refine (f6 _ hb4).vs q7 fun x58 => ?_
          refine CK_fn (f := 98) (first := #[]) (cap := #[pt C.x6, pt C.x7, pt C.x8]) (args := [l[n].bs]) Tryd.func98 rfl rfl (ihB w4 _ hC4 hoke.body (by omega)) ?_
          rintro _ w5 ⟨rfl, hC5, hm5⟩
          have hb5 := hm5.blk hb4 (by omega)
          have hm05 := hm4.trans hm5
          rw [not_ok]
          by_cases hzB : (St.wrL (kindP C.ds) l[n].body).err = 0
          · rw [if_pos hzB] at hwr
            have e := St.wrL_z _ (fun a _ => St.wr_z a) hzB
            rw [e] at hC5
            rw [decide_eq_true hzB]
            simp only [CondK_bool, MG_u, NG_u, VG_u, UG_u, PG_u, BG_u, CG_u, IG_u, MG_b, NG_b, VG_b, UG_b, PG_b, BG_b, CG_b, IG_b, PK_bool, NK_ptr, not_ok, reduceCtorEq, if_true, if_false, Bool.true_eq_false, Bool.false_eq_true, Bool.not_true, Bool.not_false]
            refine ldOne q3 Tryd.underlying48 rfl hC5.b8 ?_
            refine (f7 _ hb5).vs q7 fun x58 => ?_
            refine CK_fn (f := 98) (first := #[]) (cap := #[pt C.x6, pt C.x7, pt C.x8]) (args := [l[n].ls]) Tryd.func98 rfl rfl (ihE w5 _ hC5 hoke.els (by omega)) ?_
            rintro _ w6 ⟨rfl, hC6, hm6⟩
            have hm06 := hm05.trans hm6
            rw [not_ok]
            by_cases hzE : (St.wrL (kindP C.ds) l[n].els).err = 0
            · have e2 := St.wrL_z _ (fun a _ => St.wr_z a) hzE
              rw [e2] at hC6
              rw [decide_eq_true hzE]
              refine condF ?_
              refine good _ _ (by rw [hwr]; exact hzE) ?_ ?_ ?_ ?_ ?_ ?_ hC6 hm06
              · exact q13
              · exact q12
              · exact q11
              · exact q1
              · exact q2
              · exact q3
            · rw [decide_eq_false hzE]
              refine condT ?_
              exact bad _ _ _ rfl hzE hwr hC6 hm06
          · rw [if_neg hzB] at hwr
            rw [decide_eq_false hzB]
            simp only [CondK_bool, MG_u, NG_u, VG_u, UG_u, PG_u, BG_u, CG_u, IG_u, MG_b, NG_b, VG_b, UG_b, PG_b, BG_b, CG_b, IG_b, PK_bool, NK_ptr, not_ok, reduceCtorEq, if_true, if_false, Bool.true_eq_false, Bool.false_eq_true, Bool.not_true, Bool.not_false]
            exact bad _ _ _ rfl hzB hwr hC5 hm05
        · rw [decide_eq_false hz]
          simp only [CondK_bool, MG_u, NG_u, VG_u, UG_u, PG_u, BG_u, CG_u, IG_u, MG_b, NG_b, VG_b, UG_b, PG_b, BG_b, CG_b, IG_b, PK_bool, NK_ptr, not_ok, reduceCtorEq, if_true, if_false, Bool.true_eq_false, Bool.false_eq_true, Bool.not_true, Bool.not_false]
          exact bad _ _ _ rfl hz (g1 hz) hC4 hm4
      have r2 : ∀ (ρ' : Sl) (w4 : World) (r : Wr), Clo C r w4 → Mod (fun i => i = C.x5) w w4 → w4.heap[bS]? = some (.cells l[n].cells.toArray 25 (0, 0)) → ρ' 8 = .bool (decide (r.err = 0)) → ρ' 13 = .int .i64 n → ρ' 12 = .int .i64 l.length → ρ' 11 = .slice A l.length c → ρ' 1 = pt C.x6 → ρ' 2 = pt C.x7 → ρ' 3 = pt C.x8 → ρ' 7 = pt bS →
          (r.err = 0 → r = zWr ∧ l[n].bad (kindP C.ds) = false) → (r.err ≠ 0 → l[n].wr (kindP C.ds) = r) →
          sx fn_ Tryd.prog 71 scope_Table_look_3_R2 (blkK 1 (seqK (sx fn_ Tryd.prog 71 scope_Table_look_3_R4 K) K)) ρ' w4 := by
        intro ρ' w4 r hC4 hm4 hb4 q8 q13 q12 q11 q1 q2 q3 q7 g0 g1
        obtain ⟨A', c', hs', _⟩ := reads_cap hoke.exprs.1
        have hlx := Ex.len_sz l[n].exprs
        have f5 : FAt Tryd.prog w4 25 5 ⟨bS, 0, none⟩ 22 (.slice A' l[n].exprs.length c') := FAt.mk' (off := 5) (by kernel_rfl) uExs rfl (by rw [add_pl, cell_blk hb4, ← hs']; rfl)
        rw [scope_Table_look_3_R2_eq]
        unfold scope_Table_look_3_R2_F
        refine f5.vs q7 fun x40 => ?_
        rw [len22]
        refine W_loop scope_Table_look_3_L5_ok (fun ρ w' => ∃ (m : Nat) (r : Wr), m ≤ l[n].exprs.length ∧ ρ 43 = .int .i64 m ∧ ρ 42 = .int .i64 l[n].exprs.length ∧ ρ 41 = .slice A' l[n].exprs.length c' ∧ ρ 8 = .bool (decide (r.err = 0)) ∧ ρ 13 = .int .i64 n ∧ ρ 12 = .int .i64 l.length ∧ ρ 11 = .slice A l.length c ∧ ρ 1 = pt C.x6 ∧ ρ 2 = pt C.x7 ∧ ρ 3 = pt C.x8 ∧ ρ 7 = pt bS ∧ Clo C r w' ∧ Mod (fun i => i = C.x5) w w' ∧ w'.heap[bS]? = some (.cells l[n].cells.toArray 25 (0, 0)) ∧
            (r.err = 0 → r = zWr ∧ l[n].bad (kindP C.ds) = false ∧ ∀ a ∈ l[n].exprs.take m, (a.wr (kindP C.ds)).err = 0) ∧ (r.err ≠ 0 → l[n].wr (kindP C.ds) = r)) (fun ρ _ => l[n].exprs.length - (intOf (ρ 43)).toNat)
          ⟨0, r, Nat.zero_le _, rfl, rfl, rfl, q8, q13, q12, q11, q1, q2, q3, q7, hC4, hm4, hb4, fun q => ⟨(g0 q).1, (g0 q).2, by simp⟩, g1⟩ ?_
        rintro ρ w5 ⟨m, r, hmn, h43, h42, h41, h8, h13, h12, h11, h1, h2, h3, h7, hC5, hm5, hb5, g0, g1⟩
        rw [scope_Table_look_3_L5_eq]
        unfold scope_Table_look_3_L5_F
        rw [h43, h42, h41]
        refine BKlss (a := m) (b := l[n].exprs.length) rfl rfl ?_
        by_cases hlt2 : m < l[n].exprs.length
        · rw [show decide ((m : Int) < (l[n].exprs.length : Int)) = true by rw [decide_eq_true_eq]; omega]
          refine condT ?_
          have hxj : l[n].exprs[m]? = some l[n].exprs[m] := List.getElem?_eq_getElem hlt2
          have hmj : l[n].exprs[m] ∈ l[n].exprs := List.getElem_mem hlt2
          have hok5 := hoke.exprs.mod hC5.m
          rw [hs'] at hok5
          refine ixEx hok5 hxj fun y => ?_
          have hsj := Ex.szL_at hxj
          refine lcl_k (cs := l[n].exprs[m].cells.toArray) zEx _ iEx rfl (ex_one (hok5.at hxj)) fun w6 hb6 hm6 _ => ?_
          have hC6 := hC5.step hm6
          have hb6s := hm6.blk hb5 id
          have hm06 := hm5.trans (up0 hm6)
          generalize w5.heap.size = b10 at *
          rw [h8]
          by_cases hz : r.err = 0
          · obtain ⟨rfl, hbad, hall2⟩ := g0 hz
            rw [show decide (zWr.err = 0) = true from rfl]
            simp only [CondK_bool, MG_u, NG_u, VG_u, UG_u, PG_u, BG_u, CG_u, IG_u, MG_b, NG_b, VG_b, UG_b, PG_b, BG_b, CG_b, IG_b, PK_bool, NK_ptr, not_ok, reduceCtorEq, if_true, if_false, Bool.true_eq_false, Bool.false_eq_true, Bool.not_true, Bool.not_false]
            refine ldOne h2 Tryd.underlying98 rfl hC6.b7 ?_
            refine ldS (cs := l[n].exprs[m].cells.toArray) rfl Tryd.underlying29 rfl iEx hb6 ?_
            refine CK_fn (f := 97) (first := #[]) (cap := #[pt C.x6, pt C.x7]) (args := [.agg l[n].exprs[m].cells.toArray]) Tryd.func97 rfl rfl (exprC_ok _ w6 hC6 (hoke.exprs.2 _ hmj) (by omega)) ?_
            rintro _ w7 ⟨rfl, hC7, hm7⟩
            refine BKadd (a := m) (b := 1) rfl rfl (by omega) (by omega) ?_
            refine ⟨⟨m + 1, l[n].exprs[m].wr (kindP C.ds), hlt2, rfl, h42, h41, rfl, h13, h12, h11, h1, h2, h3, h7, hC7, hm06.trans hm7, hm7.blk hb6s (by omega), fun q => ⟨Ex.wr_z _ q, hbad, ?_⟩, fun q => ?_⟩, ?_⟩
            · rw [List.take_add_one, hxj, Option.toList_some]
              intro a ha
              rcases List.mem_append.1 ha with ha | ha
              · exact hall2 a ha
              · rw [List.mem_singleton.1 ha]; exact q
            · have e1 := Ex.wrL_at hxj hall2 q
              rw [hwr, hbad, e1, if_neg q]; rfl
            · show l[n].exprs.length - (intOf (Value.int .i64 ((m : Int) + 1))).toNat < _
              simp only [intOf]; omega
          · rw [decide_eq_false hz]
            simp only [CondK_bool, MG_u, NG_u, VG_u, UG_u, PG_u, BG_u, CG_u, IG_u, MG_b, NG_b, VG_b, UG_b, PG_b, BG_b, CG_b, IG_b, PK_bool, NK_ptr, not_ok, reduceCtorEq, if_true, if_false, Bool.true_eq_false, Bool.false_eq_true, Bool.not_true, Bool.not_false]
            refine BKadd (a := m) (b := 1) rfl rfl (by omega) (by omega) ?_
            refine ⟨⟨m + 1, r, hlt2, rfl, h42, h41, ?_, h13, h12, h11, h1, h2, h3, h7, hC6, hm06, hb6s, fun q => absurd q hz, g1⟩, ?_⟩
            · show Value.bool false = _
              rw [decide_eq_false hz]
            · show l[n].exprs.length - (intOf (Value.int .i64 ((m : Int) + 1))).toNat < _
              simp only [intOf]; omega
        · obtain rfl : m = l[n].exprs.length := by omega
          rw [show decide (((l[n].exprs.length : Nat) : Int) < (l[n].exprs.length : Int)) = false by simp]
          refine condF ?_
          rw [sq_x, bk_x, sq_n]
          rw [List.take_length] at g0
          refine r6 _ w5 r hC5 hm5 hb5 ?_ ?_ ?_ ?_ ?_ ?_ ?_ ?_ (fun q => ⟨(g0 q).1, (g0 q).2.1, ?_⟩) g1
          · exact h8
          · exact h13
          · exact h12
          · exact h11
          · exact h1
          · exact h2
          · exact h3
          · exact h7
          · rw [Ex.wrL_all (g0 q).2.2]; rfl
      have r3 : ∀ (ρ' : Sl) (t : Bool), ρ' 19 = .bool t → t = decide (l[n].op = 1 ∨ l[n].op = 5) → ρ' 18 = .int .u8 l[n].op → ρ' 8 = .bool true → ρ' 13 = .int .i64 n → ρ' 12 = .int .i64 l.length → ρ' 11 = .slice A l.length c → ρ' 1 = pt C.x6 → ρ' 2 = pt C.x7 → ρ' 3 = pt C.x8 → ρ' 7 = pt bS →
          sx fn_ Tryd.prog 71 scope_Table_look_3_R3 (blkK 2 (seqK (sx fn_ Tryd.prog 71 scope_Table_look_3_R2 (blkK 1 (seqK (sx fn_ Tryd.prog 71 scope_Table_look_3_R4 K) K))) (blkK 1 (seqK (sx fn_ Tryd.prog 71 scope_Table_look_3_R4 K) K)))) ρ' w3 := by
        intro ρ' t q19 ht q18 q8 q13 q12 q11 q1 q2 q3 q7
        rw [scope_Table_look_3_R3_eq]
        unfold scope_Table_look_3_R3_F
        refine caseN q19 (fun hp => ?_) (fun hp => ?_)
        · rw [hp] at ht
          have ht := of_decide_eq_true ht.symm
          have hn2 : l[n].op ≠ 2 := by omega
          refine ldOne q1 Tryd.underlying131 rfl hC3.b6 ?_
          refine d3.vs q7 fun x23 => d8.vs q7 fun x25 => d9.vs q7 fun x27 => ?_
          refine CK_fn (f := 96) (first := #[]) (cap := #[pt C.x2, pt C.x5]) (args := [.string l[n].name, .int .u8 1, .int .i64 l[n].line, .int .i64 l[n].col]) Tryd.func96 rfl rfl (must_ok hC3 l[n].name 1 l[n].line l[n].col) ?_
          rintro v w4 ⟨rfl, hC4, hm4⟩
          rw [bk_n, sq_n]
          refine r2 _ w4 _ hC4 (hm03.trans hm4) (hm4.blk hb3 (by omega)) ?_ ?_ ?_ ?_ ?_ ?_ ?_ ?_ ?_ ?_
          · show Value.bool _ = _
            by_cases q : kindP C.ds l[n].name.data.toList = 1 <;> simp [q, zWr]
          · exact q13
          · exact q12
          · exact q11
          · exact q1
          · exact q2
          · exact q3
          · exact q7
          · intro q
            by_cases k1 : kindP C.ds l[n].name.data.toList = 1
            · rw [if_pos k1]
              refine ⟨rfl, ?_⟩
              unfold St.bad; simp [k1, hn2]
            · rw [if_neg k1] at q; simp at q
          · intro q
            by_cases k1 : kindP C.ds l[n].name.data.toList = 1
            · rw [if_pos k1] at q; exact absurd rfl q
            · rw [if_neg k1, hwr, if_pos]
              unfold St.bad; rw [decide_eq_true ⟨ht, k1⟩]; rfl
        · rw [hp] at ht
          have ht := of_decide_eq_false ht.symm
          refine BKeqI (a := l[n].op) (b := 2) q18 rfl (fun h2' => condT ?_) (fun h2' => condF ?_)
          · refine ldOne q1 Tryd.underlying131 rfl hC3.b6 ?_
            refine d3.vs q7 fun x23 => d8.vs q7 fun x25 => d9.vs q7 fun x27 => ?_
            refine CK_fn (f := 96) (first := #[]) (cap := #[pt C.x2, pt C.x5]) (args := [.string l[n].name, .int .u8 2, .int .i64 l[n].line, .int .i64 l[n].col]) Tryd.func96 rfl rfl (must_ok hC3 l[n].name 2 l[n].line l[n].col) ?_
            rintro v w4 ⟨rfl, hC4, hm4⟩
            rw [bk_n, sq_n]
            refine r2 _ w4 _ hC4 (hm03.trans hm4) (hm4.blk hb3 (by omega)) ?_ ?_ ?_ ?_ ?_ ?_ ?_ ?_ ?_ ?_
            · show Value.bool _ = _
              by_cases q : kindP C.ds l[n].name.data.toList = 2 <;> simp [q, zWr]
            · exact q13
            · exact q12
            · exact q11
            · exact q1
            · exact q2
            · exact q3
            · exact q7
            · intro q
              by_cases k1 : kindP C.ds l[n].name.data.toList = 2
              · rw [if_pos k1]
                refine ⟨rfl, ?_⟩
                unfold St.bad; simp [k1, ht]
              · rw [if_neg k1] at q; simp at q
            · intro q
              by_cases k1 : kindP C.ds l[n].name.data.toList = 2
              · rw [if_pos k1] at q; exact absurd rfl q
              · rw [if_neg k1, hwr, if_pos]
                unfold St.bad; rw [decide_eq_true (⟨h2', k1⟩ : l[n].op = 2 ∧ kindP C.ds l[n].name.data.toList ≠ 2), Bool.or_true]
          · rw [bk_n, sq_n]
            refine r2 _ w3 zWr hC3 hm03 hb3 ?_ ?_ ?_ ?_ ?_ ?_ ?_ ?_ (fun _ => ⟨rfl, ?_⟩) (fun q => absurd rfl q)
            · exact q8
            · exact q13
            · exact q12
            · exact q11
            · exact q1
            · exact q2
            · exact q3
            · exact q7
            · unfold St.bad; simp [ht, h2']
      refine d0.vk' fun x17 => ?_
      refine caseI (fun k1 => condT ?_) (fun k1 => condF ?_)
      · refine r3 _ true rfl (by rw [decide_eq_true (Or.inl k1)]) rfl rfl ?_ ?_ ?_ ?_ ?_ ?_ rfl
        · exact h13
        · exact h12
        · exact h11
        · exact h1
        · exact h2
        · exact h3
      · rw [BK_eql]
        refine r3 _ (l[n].op == 5) rfl ?_ rfl rfl ?_ ?_ ?_ ?_ ?_ ?_ rfl
        · rw [beq_dec]
          by_cases q : l[n].op = 5
          · rw [decide_eq_true q, decide_eq_true (Or.inr q)]
          · rw [decide_eq_false q, decide_eq_false (by omega)]
        · exact h13
        · exact h12
        · exact h11
        · exact h1
        · exact h2
        · exact h3
    · obtain rfl : n = l.length := by omega
      rw [show decide (((l.length : Nat) : Int) < (l.length : Int)) = false by simp]
      refine condF ?_
      exact kX _ rfl
  refine h _ (fun ρ' w' a b c1 c2 c3 c4 c5 d e f => ⟨⟨n + 1, a, b, c1, c2, c3, c4, c5, d, e, f⟩, ?_⟩) (fun ρ' w' a b c' d => ?_) (fun ρ' b => ?_)
  · rw [b, h13]; simp only [intOf]; omega
  · rw [sq_r, bk_r, sq_r]
    refine ⟨?_, c', d⟩
    rw [decide_eq_false b]; exact a
  · subst b
    rw [List.take_length] at hall
    rw [sq_x, bk_x, sq_n, scope_Table_look_3_R1_eq]
    unfold scope_Table_look_3_R1_F
    rw [St.wrL_all hall]
    exact ⟨rfl, hC2, hm⟩
theorem stC_all {C : Cx} : ∀ e : St, StC C e.body ∧ StC C e.els := by
  intro e
  induction e using St.ind with
  | h e ih1 ih2 => exact ⟨stC_row ih1, stC_row ih2⟩
theorem StmtsC_ok {C : Cx} (l : List St) : StC C l := stC_row fun a _ => stC_all a
end Go.Proofs.YtpkfbaagpjdifaaDoor.Tr
set_option linter.unusedVariables false
set_option linter.unusedSimpArgs false
set_option maxRecDepth 4000
namespace Go.Proofs.YtpkfbaagpjdifaaDoor.Tr
open Go Go.X Go.RowKit Go.Proofs.YtpkfbaagpjdifaaDoor.XG Go.Proofs.YtpkfbaagpjdifaaDoor.XK

deriving instance DecidableEq for En
theorem isI (w : World) : (isAgg 3).run Tryd.prog w = .ok false w := by unfold isAgg; rw [Sem.run_bind, run_underlying Tryd.underlying3 w]; rfl
theorem isE (w : World) : (isAgg 38).run Tryd.prog w = .ok false w := by unfold isAgg; rw [Sem.run_bind, run_underlying Tryd.underlying38 w]; rfl
theorem eqEn (a b : En) (w : World) : (Op.equalIn 10000 130 a.v b.v).run Tryd.prog w = .ok (decide (a = b)) w := by
  show (Op.equalIn (9999 + 1) 130 (.agg a.cells.toArray) (.agg b.cells.toArray)).run Tryd.prog w = _
  rw [run_equalIn_struct w 9999 130 _ _ (by simp [Program.fieldsOf, Tryd.underlying130]) (by kernel_rfl)]
  obtain ⟨a1, a2, a3, a4⟩ := a; obtain ⟨b1, b2, b3, b4⟩ := b
  simp [Program.fieldsOf, Tryd.underlying130, Op.eqFields, part, isU, isI, Sem.run_bind, En.cells, run_equalIn_int w 9998 3 .i64 .i64 _ _ Tryd.underlying3, run_equalIn_int w 9998 5 .u8 .u8 _ _ Tryd.underlying5]
  by_cases h1 : a1 = b1 <;> by_cases h2 : a2 = b2 <;> by_cases h3 : a3 = b3 <;> by_cases h4 : a4 = b4 <;> simp [h1, h2, h3, h4]
theorem gEn : Tryd.prog.eqGuardType Tryd.prog.depth 130 = false := by kernel_rfl
theorem rEnN (a b : En) (w : World) : (binOp .neq 130 a.v b.v).run Tryd.prog w = .ok (.bool (!decide (a = b))) w := by
  show (do pure (.bool (!(← Op.equalIn 10000 130 a.v b.v))) : Sem Value).run Tryd.prog w = _
  rw [Sem.run_bind, eqEn]; rfl
theorem zF1 : (Tryd.prog.info? 131).bind (·.zero) = some .nilFunc := by kernel_rfl
theorem zF2 : (Tryd.prog.info? 98).bind (·.zero) = some .nilFunc := by kernel_rfl
theorem zF3 : (Tryd.prog.info? 48).bind (·.zero) = some .nilFunc := by kernel_rfl
theorem look_fin {C : Cx} {w : World} (hC : Clo C zWr w) {b4 : Nat} (c4 : w.heap[b4]? = some (.cells zWr.cells.toArray 54 (0, 0))) (l3 : b4 ≠ C.x5) (l4 : C.w0.heap.size ≤ b4) {v : Value} {l : List St} (hok : StsOk C.w0 v l) (hsz : St.szL l ≤ 1099511627776) :
    VK Tryd.prog (Instr.loadAt 48 (pt C.x8)) w fun x12 w => CK Tryd.prog x12 [v] w fun x14 w => VK Tryd.prog (Instr.loadAt 54 (pt C.x5)) w fun x15 w => UK Tryd.prog (Instr.storeAt 54 (pt b4) x15) w fun _ w =>
      ∃ x, (do loadVar 54 (← asAddr (pt b4)) : Sem Value).run Tryd.prog w = .ok x w ∧ (x = (St.wrL (kindP C.ds) l).v ∧ Mod none_ C.w0 w) := by
  refine ldOne rfl Tryd.underlying48 rfl hC.b8 ?_
  refine CK_fn (f := 98) (first := #[]) (cap := #[pt C.x6, pt C.x7, pt C.x8]) (args := [v]) Tryd.func98 rfl rfl (StmtsC_ok l w v hC hok hsz) ?_
  rintro v' w10 ⟨rfl, hC10, hm10⟩
  have c4' := hm10.blk c4 l3
  refine ldS (cs := (St.wrL (kindP C.ds) l).cells.toArray) rfl Tryd.underlying54 rfl iWrg hC10.b5 ?_
  refine stS (b := b4) (old := zWr.cells.toArray) (cs := (St.wrL (kindP C.ds) l).cells.toArray) rfl rfl iWrg rfl (wr_one _) c4' fun w11 hb11 hm11 _ => ?_
  exact ⟨_, res_ld (run_ldB (cs := (St.wrL (kindP C.ds) l).cells.toArray) Tryd.underlying54 rfl iWrg hb11), rfl, hC10.m.then hm11 (fun i hi q => absurd q (by omega))⟩
theorem look_ok' {w : World} {base t : Nat} {ds : List De} (ht : TbAt w base t ds) {v : Value} {l : List St} (hok : StsOk w v l) (hsz : St.szL l ≤ 1099511627776) :
    Rt Tryd.prog 89 #[pt t, v] w fun v' w' => v' = (St.wrL (kindP ds) l).v ∧ Mod none_ w w' := by
  refine scope_Table_look_calls ?_
  unfold scope_Table_look_F
  refine box_k (cs := #[pt t]) rfl fun w1 hb1 hm1 hz1 => ?_
  refine al_k zWrg rfl _ fun w2 hb2 hm2 hz2 => ?_
  refine al_k zWrg rfl _ fun w3 hb3 hm3 hz3 => ?_
  rw [mkFunc]
  refine al_k zF1 rfl _ fun w4 hb4 hm4 hz4 => ?_
  refine stC (b := w3.heap.size) (o := 0) (cs := #[.nilFunc]) rfl (by kernel_rfl) rfl hb4 (by decide) fun w5 hb5 hm5 hz5 => ?_
  refine al_k zF2 rfl _ fun w6 hb6 hm6 hz6 => ?_
  rw [mkFunc]
  refine stC (b := w5.heap.size) (o := 0) (cs := #[.nilFunc]) rfl (by kernel_rfl) rfl hb6 (by decide) fun w7 hb7 hm7 hz7 => ?_
  refine al_k zF3 rfl _ fun w8 hb8 hm8 hz8 => ?_
  rw [mkFunc]
  refine stC (b := w7.heap.size) (o := 0) (cs := #[.nilFunc]) rfl (by kernel_rfl) rfl hb8 (by decide) fun w9 hb9 hm9 hz9 => ?_
  have c2 := hm9.blk (hm8.blk (hm7.blk (hm6.blk (hm5.blk (hm4.blk (hm3.blk (hm2.blk hb1 id) id) id) (by omega)) id) (by omega)) id) (by omega)
  have c4 := hm9.blk (hm8.blk (hm7.blk (hm6.blk (hm5.blk (hm4.blk (hm3.blk hb2 id) id) (by omega)) id) (by omega)) id) (by omega)
  have c5 := hm9.blk (hm8.blk (hm7.blk (hm6.blk (hm5.blk (hm4.blk hb3 id) (by omega)) id) (by omega)) id) (by omega)
  have c6 := hm9.blk (hm8.blk (hm7.blk (hm6.blk hb5 id) (by omega)) id) (by omega)
  have c7 := hm9.blk (hm8.blk hb7 id) (by omega)
  have hm09 : Mod none_ w w9 := (((((((hm1.trans hm2).trans hm3).trans hm4).then hm5 (fun i hi q => absurd q (by omega))).trans hm6).then hm7 (fun i hi q => absurd q (by omega))).trans hm8).then hm9 (fun i hi q => absurd q (by omega))
  have hC : Clo ⟨w, base, t, w.heap.size, w2.heap.size, w3.heap.size, w5.heap.size, w7.heap.size, ds⟩ zWr w9 :=
    ⟨hm09, ht, c2, c5, c6, c7, hb9, by dsimp only; omega⟩
  exact look_fin hC c4 (by dsimp only; omega) (by dsimp only; omega) hok hsz
end Go.Proofs.YtpkfbaagpjdifaaDoor.Tr
set_option linter.unusedVariables false
set_option linter.unusedSimpArgs false
set_option maxRecDepth 4000
namespace Go.Proofs.YtpkfbaagpjdifaaDoor.Tr
open Go Go.X Go.RowKit Go.Proofs.YtpkfbaagpjdifaaDoor.XG Go.Proofs.YtpkfbaagpjdifaaDoor.XK
theorem findF_yes {k : Key} : ∀ (l pre r : List De), (∃ a ∈ l, a.key = k) → (findF pre l k).kind ≠ 0 ∧ findF pre (l ++ r) k = findF pre l k
  | [], pre, r, h => by obtain ⟨a, ha, _⟩ := h; cases ha
  | d :: l, pre, r, h => by
    rw [List.cons_append, findF, findF]
    by_cases q : d.key = k
    · rw [if_pos q, if_pos q]; exact ⟨nu_kind _ _, rfl⟩
    · rw [if_neg q, if_neg q]
      refine findF_yes l _ r ?_
      obtain ⟨a, ha, hk⟩ := h
      rcases List.mem_cons.1 ha with rfl | ha
      · exact absurd hk q
      · exact ⟨a, ha, hk⟩
theorem findP_none {l : List De} {k : Key} (h : ∀ a ∈ l, a.key ≠ k) : findP l k = zEn := by
  have := findF_no k l [] [] h
  rw [List.append_nil] at this
  unfold findP
  rw [this]; rfl
theorem findP_snoc {ds : List De} {d : De} (h : (findP ds d.key).kind = 0) (k : Key) : findP (ds ++ [d]) k = if k = d.key then nu ds d else findP ds k := by
  by_cases q : ∃ a ∈ ds, a.key = k
  · obtain ⟨h1, h2⟩ := findF_yes ds [] [d] q
    have hne : k ≠ d.key := by rintro rfl; exact h1 h
    rw [if_neg hne]; exact h2
  · have q' : ∀ a ∈ ds, a.key ≠ k := fun a ha e => q ⟨a, ha, e⟩
    have e1 : findP (ds ++ [d]) k = findF ds [d] k := by unfold findP; rw [findF_no k ds [] [d] q', List.nil_append]
    rw [e1, findF]
    by_cases e : d.key = k
    · rw [if_pos e, if_pos e.symm]
    · rw [if_neg e, if_neg (fun x => e x.symm), findP_none q']; rfl
theorem findP_zero {ds : List De} {k : Key} (h : (findP ds k).kind = 0) : findP ds k = zEn := by
  by_cases q : ∃ a ∈ ds, a.key = k
  · exact absurd h (findF_yes ds [] [] q).1
  · exact findP_none fun a ha e => q ⟨a, ha, e⟩
theorem findE_app {k' k : Key} {v : Value} {c : Nat} : ∀ (l : List (Ent Key)) (n : Nat), findE k' (l ++ [⟨k, v, c⟩]) n = match findE k' l n with | some p => some p | none => if k' = k then some (n + l.length, v) else none
  | [], n => by simp [findE]
  | e :: r, n => by
    rw [List.cons_append, findE, findE]
    by_cases h : k' = e.k
    · simp [h]
    · rw [if_neg h, if_neg h, findE_app r (n + 1)]
      cases findE k' r (n + 1) with
      | some p => rfl
      | none => simp only [List.length_cons]; rw [show n + 1 + r.length = n + (r.length + 1) by omega]
theorem findE_ge {k : Key} {u : Value} : ∀ (l : List (Ent Key)) (n i : Nat), findE k l n = some (i, u) → n ≤ i
  | [], n, i, h => by simp [findE] at h
  | e :: r, n, i, h => by
    rw [findE] at h
    split at h
    · cases h; exact Nat.le_refl _
    · have := findE_ge r (n + 1) i h; omega
theorem findE_mod {k' k : Key} {v u : Value} : ∀ (l : List (Ent Key)) (n i : Nat), findE k l n = some (n + i, u) → findE k' (l.modify i fun e => ⟨e.k, v, e.b⟩) n = if k' = k then some (n + i, v) else findE k' l n
  | [], n, i, h => by simp [findE] at h
  | e :: r, n, 0, h => by
    rw [findE] at h
    split at h
    · rename_i hk
      subst hk
      show findE k' (⟨e.k, v, e.b⟩ :: r) n = _
      rw [findE, findE]
      by_cases q : k' = e.k <;> simp [q]
    · have := findE_ge _ _ _ h; omega
  | e :: r, n, i + 1, h => by
    rw [findE] at h
    split at h
    · simp at h
    · rename_i hk
      show findE k' (e :: r.modify i fun e => ⟨e.k, v, e.b⟩) n = _
      rw [findE, findE, findE_mod (k' := k') r (n + 1) i (by rw [show n + 1 + i = n + (i + 1) by omega]; exact h)]
      by_cases q : k' = e.k
      · rw [if_pos q, if_pos q, if_neg (by rintro rfl; exact hk q)]
      · rw [if_neg q, if_neg q, show n + 1 + i = n + (i + 1) by omega]
theorem valE_put (k' k : Key) (v : Value) (c : Nat) (l : List (Ent Key)) : valE k' (putE k v c l) = if k' = k then v else valE k' l := by
  unfold valE putE
  cases h : findE k l 0 with
  | none =>
    dsimp only
    rw [findE_app]
    by_cases q : k' = k
    · subst q; rw [h]; simp
    · cases findE k' l 0 <;> simp [q]
  | some p =>
    obtain ⟨i, u⟩ := p
    dsimp only
    rw [findE_mod l 0 i (by simpa using h)]
    by_cases q : k' = k <;> simp [q]
structure Raw (w : World) (base t m : Nat) (nv av : Value) (vs cl : Int) (ns es : List Value) (l : List (Ent Key)) (c : Nat) : Prop where
  bt : w.heap[t]? = some (.cells #[nv, .map (some m), .int .i64 vs, av, .int .i64 cl] 124 (0, 0))
  bm : IsMap encK w m l c
  lt : base ≤ t
  lm : base ≤ m
  on : w.ownsRow base 9 1 nv ns.length ns
  oa : w.ownsRow base 3 1 av es.length es
section
variable {w w' : World} {base t m : Nat} {nv av : Value} {vs cl : Int} {ns es : List Value} {l : List (Ent Key)} {c : Nat}
theorem Raw.mod (h : Raw w base t m nv av vs cl ns es l c) (hm : Mod none_ w w') : Raw w' base t m nv av vs cl ns es l c :=
  ⟨hm.blk h.bt id, h.bm.mod hm id, h.lt, h.lm, owns_mod h.on hm (fun _ _ => id), owns_mod h.oa hm (fun _ _ => id)⟩
theorem Raw.tm (h : Raw w base t m nv av vs cl ns es l c) : m ≠ t := by
  rintro rfl
  have := h.bm.symm.trans h.bt
  cases this
theorem Raw.nt (h : Raw w base t m nv av vs cl ns es l c) : nv.ownBlock ≠ some t := owns_ne_blk h.on h.bt (by decide)
theorem Raw.at (h : Raw w base t m nv av vs cl ns es l c) : av.ownBlock ≠ some t := owns_ne_blk h.oa h.bt (by decide)
theorem Raw.nm (h : Raw w base t m nv av vs cl ns es l c) : nv.ownBlock ≠ some m := fun q => by
  obtain ⟨cur, hc⟩ := owns_blk h.on q
  have := h.bm.symm.trans hc
  cases this
theorem Raw.am (h : Raw w base t m nv av vs cl ns es l c) : av.ownBlock ≠ some m := fun q => by
  obtain ⟨cur, hc⟩ := owns_blk h.oa q
  have := h.bm.symm.trans hc
  cases this
theorem Raw.setT (h : Raw w base t m nv av vs cl ns es l c) (hm : Mod (fun i => i = t) w w') {nv' av' : Value} {vs' cl' : Int} (hb : w'.heap[t]? = some (.cells #[nv', .map (some m), .int .i64 vs', av', .int .i64 cl'] 124 (0, 0)))
    (hn : nv' = nv) (ha : av' = av) : Raw w' base t m nv' av' vs' cl' ns es l c := by
  subst hn ha
  exact ⟨hb, h.bm.mod hm h.tm, h.lt, h.lm, owns_mod h.on hm (fun k hk q => h.nt (q ▸ hk)), owns_mod h.oa hm (fun k hk q => h.at (q ▸ hk))⟩
theorem Raw.fld (h : Raw w base t m nv av vs cl ns es l c) : t < w.heap.size := X.blk_lt h.bt
end
end Go.Proofs.YtpkfbaagpjdifaaDoor.Tr
set_option linter.unusedVariables false
set_option linter.unusedSimpArgs false
set_option maxRecDepth 4000
namespace Go.Proofs.YtpkfbaagpjdifaaDoor.Tr
open Go Go.X Go.RowKit Go.Proofs.YtpkfbaagpjdifaaDoor.XG Go.Proofs.YtpkfbaagpjdifaaDoor.XK
def full (ds : List De) (d : De) : Bool := if d.places = 0 then decide (vars ds = 64) else decide (1000 < cellsP ds + d.places)
def dstep (ds : List De) (d : De) : Int := if (findP ds d.key).kind ≠ 0 then 40 else if full ds d then 4 else 0
theorem look_run {w : World} {b : Nat} {l : List (Ent Key)} {c : Nat} (h : IsMap encK w b l c) (k : ByteArray) : (Instr.lookup 121 (.map (some b)) (.string k) false).run Tryd.prog w = .ok (valE k.data.toList l) w := by
  have hr := run_look KT uMap h zEnt k.data.toList false
  rw [encK_of] at hr
  rw [hr]
  unfold valE
  cases findE k.data.toList l 0 with
  | none => rfl
  | some p => obtain ⟨i, v⟩ := p; rfl
theorem build_run {t : TypeId} {parts : List (Nat × Value)} {cs : Array Value} {w : World} (h : Tryd.prog.built t parts = some cs) : (Instr.build t parts.toArray).run Tryd.prog w = .ok (.agg cs) w :=
  run_build (P := Tryd.prog) w t parts.toArray cs (by simpa using h)
theorem uIs : Tryd.prog.underlying 122 = some (.slice 3) := by kernel_rfl
theorem eIs : elemOk Tryd.prog 122 3 1 8 = true := by kernel_rfl
theorem eSs : elemOk Tryd.prog 91 9 1 16 = true := by kernel_rfl
theorem owns_ge {w : World} {base : Nat} {e : TypeId} {size : Nat} {v : Value} {n : Nat} {xs : List Value} (h : w.ownsRow base e size v n xs) {g : Nat} (hg : v.ownBlock = some g) : base ≤ g := by
  obtain ⟨_, ⟨rfl, _⟩ | ⟨g', cap, cur, rfl, hb, _⟩⟩ := h
  · cases hg
  · have : g' = g := by simpa [Value.ownBlock] using hg
    omega
theorem app_names {w : World} {base t m : Nat} {nv av : Value} {vs cl : Int} {ns es : List Value} {l : List (Ent Key)} {c : Nat} {S : World → Prop} {N : Value → Value → Value → World → Prop} (hR : Raw w base t m nv av vs cl ns es l c) {x u : Value} (hx : reads w 1 x 1 [u]) (hu : u.oneCell' = true) (hlen : ns.length < 1099511627776)
    (hS : ∀ w', Mod (fun i => some i = nv.ownBlock ∨ i = t) w w' → S w')
    (hN : ∀ x1 x2 v' w', Raw w' base t m v' av vs cl (ns ++ [u]) es l c → S w' → Mod (fun i => some i = nv.ownBlock ∨ i = t) w w' → N x1 x2 v' w') :
    IK Tryd.prog .append #[91, 91] 91 [false, false] [nv, x] w fun v' w => S w ∧ (HK Tryd.prog S (nilCk (pt t)) fun x1 => HK Tryd.prog S (do pure (Next.value (← Instr.fieldAt 124 x1 0))) fun x2 => UK Tryd.prog (Instr.storeAt 91 x2 v') w fun _ w => S w ∧ N x1 x2 v' w) := by
  have ht := hR.fld
  refine ap_own eSs hR.on hx (by decide) (by simpa using hu) (by unfold maxLen; omega) (by omega) (Nat.le_of_lt (Nat.lt_of_le_of_lt hR.lt ht)) fun v' w2 h2 hm2 h4 => ?_
  have hbt2 := hm2.blk hR.bt (fun q => hR.nt q.symm)
  refine ⟨hS _ (hm2.mono fun _ _ q => Or.inl q), HN_ptr (HV_of (fun w' _ => run_fo (off := 0) (by kernel_rfl) _ w') ?_)⟩
  rw [add_pl]
  have h1 : v'.oneCell' = true := by obtain ⟨_, ⟨rfl, _⟩ | ⟨g, cap, cur, rfl, _⟩⟩ := h2 <;> rfl
  refine stC (b := t) (o := 0 + 0) rfl (by kernel_rfl) h1 hbt2 (by simp) fun w3 hb3' hm3 hz3 => ?_
  have hvt : v'.ownBlock ≠ some t := by
    rcases h4 with h4 | h4
    · rw [h4]; exact hR.nt
    · rw [h4]; intro q; injection q with q; omega
  have hm13 : Mod (fun i => some i = nv.ownBlock ∨ i = t) w w3 := (hm2.mono fun _ _ q => Or.inl q).then hm3 fun _ _ q => Or.inr q
  have hs3 := hS w3 hm13
  refine ⟨hs3, hN _ _ _ _ ?_ hs3 hm13⟩
  refine ⟨hb3', (hR.bm.mod hm2 fun q => hR.nm q.symm).mod hm3 hR.tm, hR.lt, hR.lm, ?_, ?_⟩
  · rw [List.length_append]; exact owns_mod h2 hm3 (fun k hk q => hvt (q ▸ hk))
  · exact owns_mod (owns_mod hR.oa hm2 (fun k hk q => owns_ne hR.oa hR.on (by decide) k hk q)) hm3 (fun k hk q => hR.at (q ▸ hk))
theorem app_arrs {w : World} {base t m : Nat} {nv av : Value} {vs cl : Int} {ns es : List Value} {l : List (Ent Key)} {c : Nat} {S : World → Prop} {N : Value → Value → Value → World → Prop} (hR : Raw w base t m nv av vs cl ns es l c) {x u : Value} (hx : reads w 1 x 1 [u]) (hu : u.oneCell' = true) (hlen : es.length < 1099511627776)
    (hS : ∀ w', Mod (fun i => some i = av.ownBlock ∨ i = t) w w' → S w')
    (hN : ∀ x1 x2 v' w', Raw w' base t m nv v' vs cl ns (es ++ [u]) l c → S w' → Mod (fun i => some i = av.ownBlock ∨ i = t) w w' → N x1 x2 v' w') :
    IK Tryd.prog .append #[122, 122] 122 [false, false] [av, x] w fun v' w => S w ∧ (HK Tryd.prog S (nilCk (pt t)) fun x1 => HK Tryd.prog S (do pure (Next.value (← Instr.fieldAt 124 x1 3))) fun x2 => UK Tryd.prog (Instr.storeAt 122 x2 v') w fun _ w => S w ∧ N x1 x2 v' w) := by
  have ht := hR.fld
  refine ap_own eIs hR.oa hx (by decide) (by simpa using hu) (by unfold maxLen; omega) (by omega) (Nat.le_of_lt (Nat.lt_of_le_of_lt hR.lt ht)) fun v' w2 h2 hm2 h4 => ?_
  have hbt2 := hm2.blk hR.bt (fun q => hR.at q.symm)
  refine ⟨hS _ (hm2.mono fun _ _ q => Or.inl q), HN_ptr (HV_of (fun w' _ => run_fo (off := 3) (by kernel_rfl) _ w') ?_)⟩
  rw [add_pl]
  have h1 : v'.oneCell' = true := by obtain ⟨_, ⟨rfl, _⟩ | ⟨g, cap, cur, rfl, _⟩⟩ := h2 <;> rfl
  refine stC (b := t) (o := 0 + 3) rfl (by kernel_rfl) h1 hbt2 (by simp) fun w3 hb3' hm3 hz3 => ?_
  have hvt : v'.ownBlock ≠ some t := by
    rcases h4 with h4 | h4
    · rw [h4]; exact hR.at
    · rw [h4]; intro q; injection q with q; omega
  have hm13 : Mod (fun i => some i = av.ownBlock ∨ i = t) w w3 := (hm2.mono fun _ _ q => Or.inl q).then hm3 fun _ _ q => Or.inr q
  have hs3 := hS w3 hm13
  refine ⟨hs3, hN _ _ _ _ ?_ hs3 hm13⟩
  refine ⟨hb3', (hR.bm.mod hm2 fun q => hR.am q.symm).mod hm3 hR.tm, hR.lt, hR.lm, ?_, ?_⟩
  · exact owns_mod (owns_mod hR.on hm2 (fun k hk q => owns_ne hR.on hR.oa (by decide) k hk q)) hm3 (fun k hk q => hR.nt (q ▸ hk))
  · rw [List.length_append]; exact owns_mod h2 hm3 (fun k hk q => hvt (q ▸ hk))
theorem TbAt.raw {w : World} {base t : Nat} {ds : List De} (h : TbAt w base t ds) : ∃ nv av m l c, Raw w base t m nv av (vars ds) (cellsP ds) (ds.map fun d => .string d.name) ((arrs ds).map (.int .i64)) l c ∧ ∀ k, valE k l = (findP ds k).v := by
  obtain ⟨nv, av, m, l, c, h1, h2, h3, h4, h5, h6, h7⟩ := h.at'
  exact ⟨nv, av, m, l, c, ⟨h1, h2, h4, h5, by rw [List.length_map]; exact h6, by rw [List.length_map]; exact h7⟩, h3⟩
theorem Raw.tb {w : World} {base t : Nat} {ds : List De} {nv av : Value} {m : Nat} {l : List (Ent Key)} {c : Nat} (h : Raw w base t m nv av (vars ds) (cellsP ds) (ds.map fun d => .string d.name) ((arrs ds).map (.int .i64)) l c) (hv : ∀ k, valE k l = (findP ds k).v) : TbAt w base t ds :=
  ⟨⟨nv, av, m, l, c, h.bt, h.bm, hv, h.lt, h.lm, by have := h.on; rw [List.length_map] at this; exact this, by have := h.oa; rw [List.length_map] at this; exact this⟩⟩
theorem NKs {P : Program} {w : World} {K : Value → World → Prop} {x : Value} {a : Addr} (hx : x = .pointer (some a)) (hk : K (.pointer (some a)) w) : NK P x w K := by rw [hx, NK_ptr]; exact hk
theorem R10_W (z : Go.X.At) (K : Exit → Sl → World → Prop) (ρ : Sl) (w : World) : sx z Tryd.prog 101 scope_Table_declare_R10 K ρ w = W z Tryd.prog 101 scope_Table_declare_R10 K ρ w := by kernel_rfl
def Own (w : World) (base i : Nat) : Prop := base ≤ i ∧ ∀ cs fr, w.heap[i]? ≠ some (.cells cs 43 fr)
theorem declare_ok {w : World} {base t : Nat} {ds : List De} {d : De} (ht : TbAt w base t ds) (hD : Decls ds) (hl : ds.length < 1099511627776) (hv : vars ds ≤ 64) (hc : cellsP ds ≤ 1000) (hdm : d.may = true) :
    Rt Tryd.prog 88 #[pt t, .agg d.cells.toArray] w fun v w' => v = .int .i64 (dstep ds d) ∧ (dstep ds d = 0 → TbAt w' base t (ds ++ [d])) ∧ Mod (Own w base) w w' := by
  obtain ⟨nv, av, m, l, c, hR, hval⟩ := ht.raw
  have hOt : Own w base t := ⟨hR.lt, fun cs fr q => by
    have := hR.bt.symm.trans q
    injection this with this
    injection this with _ this
    exact absurd this (by decide)⟩
  have hOm : Own w base m := ⟨hR.lm, fun cs fr q => by have := hR.bm.symm.trans q; cases this⟩
  have hOn : ∀ i, some i = nv.ownBlock → Own w base i := fun i q => ⟨owns_ge hR.on q.symm, fun cs fr q2 => owns_ne_blk hR.on q2 (by decide) q.symm⟩
  have hOa : ∀ i, some i = av.ownBlock → Own w base i := fun i q => ⟨owns_ge hR.oa q.symm, fun cs fr q2 => owns_ne_blk hR.oa q2 (by decide) q.symm⟩
  have hc0 := (cellsP_le hD.may).1
  have hp := may_places hdm
  refine scope_Table_declare_calls ?_
  unfold scope_Table_declare_F
  refine box_k (cs := d.cells.toArray) rfl fun w1 hb1 hm1 hz1 => ?_
  have hR1 := hR.mod hm1
  have hbt : base ≤ t := hR.lt
  have hltw : t < w.heap.size := hR.fld
  generalize hb3 : w.heap.size = b3 at *
  refine scope_Table_declare_R0_quiet (D := []) (fun w' => Mod none_ w1 w') ((Mod.refl _ w1).drawn _) ?_
  unfold scope_Table_declare_R0_Q
  refine QN_ptr (a := ⟨t, 0, none⟩) ?_
  refine Qfo (off := 1) (a := ⟨t, 0, none⟩) (by kernel_rfl) (Qld uMp rfl (v := .map (some m)) (fun w' hw => by rw [add_pl, cell_blk (hR1.mod hw).bt]; rfl) ?_)
  refine Qfo (off := 0) (a := ⟨b3, 0, none⟩) (by kernel_rfl) (Qld uSt rfl (v := .string d.name) (fun w' hw => by rw [add_pl, cell_blk (hw.blk hb1 id)]; rfl) ?_)
  refine QV_of (fun w' hw => look_run (hR1.mod hw).bm d.name) ?_
  refine QV_of (fun w' hw => build_run bEnt0) ?_
  rw [hval]
  refine QB_of (v := .bool (!decide (findP ds d.name.data.toList = zEn))) (fun w => run_eqGuard_agg w .neq _ _ _ _ _ gEn) (fun w => rEnN _ _ w) ?_
  intro w2 hm2
  have hR2 := hR1.mod hm2
  have hb2 := hm2.blk hb1 id
  have hm02 := hm1.trans hm2
  have up1 : ∀ {w'}, Mod none_ w w' → Mod (Own w base) w w' := fun h => h.mono fun _ _ q => q.elim
  rw [sq_n, scope_Table_declare_R1_eq]
  unfold scope_Table_declare_R1_F
  refine caseC (fun hq => ?_) (fun hq => ?_)
  · have hk : (findP ds d.key).kind ≠ 0 := fun e => by rw [show d.name.data.toList = d.key from rfl, findP_zero e] at hq; simp at hq
    have hs : dstep ds d = 40 := by unfold dstep; rw [if_pos hk]
    rw [hs]
    exact ⟨rfl, fun q => by simp at q, up1 hm02⟩
  have hk : (findP ds d.key).kind = 0 := by
    have : findP ds d.name.data.toList = zEn := by simpa using hq
    rw [show d.key = d.name.data.toList from rfl, this]; rfl
  have hds : dstep ds d = if full ds d then 4 else 0 := by unfold dstep; rw [if_neg (by simp [hk])]
  rw [hds]
  clear hm1 hm2 hR1 hb1 hq hds
  have hfld2 : ∀ (w' : World) (nv av : Value) (vs cl : Int) (ns es : List Value) (l : List (Ent Key)) (c : Nat), Raw w' base t m nv av vs cl ns es l c → ∀ (j : Nat) (v : Value), (#[nv, .map (some m), .int .i64 vs, av, .int .i64 cl] : Array Value)[j]? = some v → w'.cell? ⟨t, 0 + j, none⟩ = some v := fun w' nv av vs cl ns es l c h j v hj => by
    rw [cell_blk h.bt, Nat.zero_add]; exact hj
  -- names, the end
  have r8 : ∀ (ρ' : Sl) (w5 : World) (av' : Value) (l' : List (Ent Key)) (c' : Nat), Raw w5 base t m nv av' (vars (ds ++ [d])) (cellsP (ds ++ [d])) (ds.map fun d => .string d.name) ((arrs (ds ++ [d])).map (.int .i64)) l' c' → w5.heap[b3]? = some (.cells d.cells.toArray 43 (0, 0)) → Mod (Own w base) w w5 → (∀ k, valE k l' = (findP (ds ++ [d]) k).v) → full ds d = false → ρ' 0 = pt t → ρ' 3 = pt b3 →
      sx fn_ Tryd.prog 101 scope_Table_declare_R8 (retK Tryd.prog [ResultVar.tmp 4] fun v w' => v = .int .i64 (if full ds d then 4 else 0) ∧ ((if full ds d then (4 : Int) else 0) = 0 → TbAt w' base t (ds ++ [d])) ∧ Mod (Own w base) w w') ρ' w5 := by
    intro ρ' w5 av' l' c' hR5 hb5 hm5 hval5 hfull q0 q3
    rw [hfull, show (if (false : Bool) = true then (4 : Int) else 0) = 0 from rfl]
    rw [scope_Table_declare_R8_eq]
    unfold scope_Table_declare_R8_F
    have hRd := hR5.mod ((Mod.refl none_ w5).drawn (w5.drawn + 1))
    have hbd : ({ w5 with drawn := w5.drawn + 1 } : World).heap[b3]? = some (.cells d.cells.toArray 43 (0, 0)) := hb5
    have hmd : Mod (Own w base) w { w5 with drawn := w5.drawn + 1 } := hm5.drawn _
    refine scope_Table_declare_R11_held (D := []) (fun w' => w'.heap[b3]? = some (.cells d.cells.toArray 43 (0, 0))) hb5 ?_
    unfold scope_Table_declare_R11_H
    generalize ({ w5 with drawn := w5.drawn + 1 } : World) = wd at hRd hbd hmd ⊢
    rw [q0, q3]
    have hend : ∀ (ρ2 : Sl) (x' : Value) (w' : World), Raw w' base t m x' av' (vars (ds ++ [d])) (cellsP (ds ++ [d])) ((ds.map fun d => .string d.name) ++ [.string d.name]) ((arrs (ds ++ [d])).map (.int .i64)) l' c' → Mod (Own w base) wd w' →
        seqK (sx fn_ Tryd.prog 101 scope_Table_declare_R12 (retK Tryd.prog [ResultVar.tmp 4] fun v w' => v = .int .i64 0 ∧ ((0 : Int) = 0 → TbAt w' base t (ds ++ [d])) ∧ Mod (Own w base) w w')) (retK Tryd.prog [ResultVar.tmp 4] fun v w' => v = .int .i64 0 ∧ ((0 : Int) = 0 → TbAt w' base t (ds ++ [d])) ∧ Mod (Own w base) w w') .normal ρ2 w' := by
      intro ρ2 x' w' hRe hme
      rw [sq_n, scope_Table_declare_R12_eq]
      unfold scope_Table_declare_R12_F
      have hRe' : Raw w' base t m x' av' (vars (ds ++ [d])) (cellsP (ds ++ [d])) ((ds ++ [d]).map fun d => .string d.name) ((arrs (ds ++ [d])).map (.int .i64)) l' c' := by rw [List.map_append]; exact hRe
      exact ⟨rfl, fun _ => hRe'.tb hval5, hmd.trans hme⟩
    have hn3 : t ≠ b3 := by omega
    have hnb : nv.ownBlock ≠ some b3 := owns_ne_blk hRd.on hbd (by decide)
    refine HN_ptr (HV_of (fun w' _ => run_fo (off := 0) (by kernel_rfl) _ w') (HV_of (fun w' _ => run_fo (off := 0) (by kernel_rfl) _ w') (HV_of (fun w' hw => run_ld1 uSt rfl (v := .string d.name) (by rw [add_pl, cell_blk hw]; rfl)) ⟨?_, ?_⟩)))
    · refine ld1 (v := nv) uSs rfl (by rw [add_pl]; exact hfld2 _ _ _ _ _ _ _ _ _ hRd 0 nv rfl) ⟨hbd, ?_⟩
      refine bs_k (cs := #[.string d.name]) (by kernel_rfl) fun w6 hb6 hm6 hz6 => ⟨hm6.blk hbd id, ?_⟩
      exact app_names (hRd.mod hm6) (by simpa using reads_blk (size := 1) (n := 1) hb6 rfl) rfl (by rw [List.length_map]; omega) (fun w' h => h.blk (hm6.blk hbd id) (by rintro (q | q); exact hnb q.symm; exact hn3 q.symm)) fun x1 x2 v' w' hRe hS hme => hend _ v' w' hRe ((hm6.mono fun _ _ q => q.elim).trans (hme.mono fun i _ q => q.elim (hOn i) fun e => by rw [e]; exact hOt))
    · refine bs_k (cs := #[.string d.name]) (by kernel_rfl) fun w6 hb6 hm6 hz6 => ⟨hm6.blk hbd id, ?_⟩
      refine ld1 (v := nv) uSs rfl (by rw [add_pl]; exact hfld2 _ _ _ _ _ _ _ _ _ (hRd.mod hm6) 0 nv rfl) ⟨hm6.blk hbd id, ?_⟩
      exact app_names (hRd.mod hm6) (by simpa using reads_blk (size := 1) (n := 1) hb6 rfl) rfl (by rw [List.length_map]; omega) (fun w' h => h.blk (hm6.blk hbd id) (by rintro (q | q); exact hnb q.symm; exact hn3 q.symm)) fun x1 x2 v' w' hRe hS hme => hend _ v' w' hRe ((hm6.mono fun _ _ q => q.elim).trans (hme.mono fun i _ q => q.elim (hOn i) fun e => by rw [e]; exact hOt))
  -- the map
  have r5 : ∀ (ρ' : Sl) (w4 : World) (av' : Value) (b5 : Nat), Raw w4 base t m nv av' (vars (ds ++ [d])) (cellsP (ds ++ [d])) (ds.map fun d => .string d.name) ((arrs (ds ++ [d])).map (.int .i64)) l c → w4.heap[b3]? = some (.cells d.cells.toArray 43 (0, 0)) → w4.heap[b5]? = some (.cells (nu ds d).cells.toArray 130 (0, 0)) → Mod (Own w base) w w4 → full ds d = false → ρ' 0 = pt t → ρ' 3 = pt b3 → ρ' 5 = pt b5 →
      sx fn_ Tryd.prog 101 scope_Table_declare_R5 (retK Tryd.prog [ResultVar.tmp 4] fun v w' => v = .int .i64 (if full ds d then 4 else 0) ∧ ((if full ds d then (4 : Int) else 0) = 0 → TbAt w' base t (ds ++ [d])) ∧ Mod (Own w base) w w') ρ' w4 := by
    intro ρ' w4 av' b5 hR4 hb4 hb5 hm4 hfull q0 q3 q5
    rw [scope_Table_declare_R5_eq]
    unfold scope_Table_declare_R5_F
    refine scope_Table_declare_R7_tail (D := []) ?_
    unfold scope_Table_declare_R7_T
    have hRd := hR4.mod ((Mod.refl none_ w4).drawn (w4.drawn + 1))
    have hbd : ({ w4 with drawn := w4.drawn + 1 } : World).heap[b3]? = some (.cells d.cells.toArray 43 (0, 0)) := hb4
    have hbd5 : ({ w4 with drawn := w4.drawn + 1 } : World).heap[b5]? = some (.cells (nu ds d).cells.toArray 130 (0, 0)) := hb5
    have hmd : Mod (Own w base) w { w4 with drawn := w4.drawn + 1 } := hm4.drawn _
    generalize ({ w4 with drawn := w4.drawn + 1 } : World) = wd at hRd hbd hbd5 hmd ⊢
    rw [q0, q3, q5]
    dsimp only
    refine QN_ptr (a := ⟨t, 0, none⟩) ?_
    refine Qfo (off := 1) (a := ⟨t, 0, none⟩) (by kernel_rfl) (Qld uMp rfl (v := .map (some m)) (fun w' hw => by rw [hw, add_pl]; exact hfld2 _ _ _ _ _ _ _ _ _ hRd 1 _ rfl) ?_)
    refine Qfo (off := 0) (a := ⟨b3, 0, none⟩) (by kernel_rfl) (Qld uSt rfl (v := .string d.name) (fun w' hw => by rw [hw, add_pl, cell_blk hbd]; rfl) ?_)
    refine QV_of (v := (nu ds d).v) (fun w' hw => by rw [hw]; exact run_ldB (cs := (nu ds d).cells.toArray) Tryd.underlying130 rfl iEnt hbd5) ?_
    obtain ⟨w5, hrun, hIs, hm5⟩ := run_put KT uMap hRd.bm d.key (nu ds d).v
    rw [show encK d.key = .string d.name from encK_of d.name] at hrun
    refine UK_of hrun ?_
    have hn0 : m ≠ b3 := by
      rintro rfl
      have := hRd.bm.symm.trans hbd
      cases this
    rw [sq_n]
    refine r8 _ w5 av' _ _ ⟨hm5.blk hRd.bt (fun q => hRd.tm q.symm), hIs, hRd.lt, hRd.lm, owns_mod hRd.on hm5 (fun k hk q => hRd.nm (q ▸ hk)), owns_mod hRd.oa hm5 (fun k hk q => hRd.am (q ▸ hk))⟩ (hm5.blk hbd fun q => hn0 q.symm) (hmd.then hm5 fun i _ q => by rw [q]; exact hOm) ?_ hfull ?_ ?_
    · intro k
      rw [valE_put, findP_snoc hk, hval]
      by_cases q : k = d.key <;> simp [q]
    · exact q0
    · exact q3
  have hnotV : ∀ (q : d.places ≠ 0), isV d = false := fun q => decide_eq_false q
  have hisV : ∀ (q : d.places = 0), isV d = true := fun q => decide_eq_true q
  -- the counters
  have r6 : ∀ (ρ' : Sl) (w4 : World) (b5 : Nat) (f : Bool), Raw w4 base t m nv av (vars ds) (cellsP ds) (ds.map fun d => .string d.name) ((arrs ds).map (.int .i64)) l c → w4.heap[b3]? = some (.cells d.cells.toArray 43 (0, 0)) → w4.heap[b5]? = some (.cells (nu ds d).cells.toArray 130 (0, 0)) → Mod (Own w base) w w4 → f = full ds d → ρ' 55 = .bool f → ρ' 0 = pt t → ρ' 3 = pt b3 → ρ' 5 = pt b5 →
      sx fn_ Tryd.prog 101 scope_Table_declare_R6 (blkK 0 (seqK (sx fn_ Tryd.prog 101 scope_Table_declare_R5 (retK Tryd.prog [ResultVar.tmp 4] fun v w' => v = .int .i64 (if full ds d then 4 else 0) ∧ ((if full ds d then (4 : Int) else 0) = 0 → TbAt w' base t (ds ++ [d])) ∧ Mod (Own w base) w w')) (retK Tryd.prog [ResultVar.tmp 4] fun v w' => v = .int .i64 (if full ds d then 4 else 0) ∧ ((if full ds d then (4 : Int) else 0) = 0 → TbAt w' base t (ds ++ [d])) ∧ Mod (Own w base) w w'))) ρ' w4 := by
    intro ρ' w4 b5 f hR4 hb4 hb5 hm4 hf q55 q0 q3 q5
    rw [scope_Table_declare_R6_eq]
    unfold scope_Table_declare_R6_F
    have hn5 : t ≠ b5 := by
      rintro rfl
      have := hR4.bt.symm.trans hb5
      injection this with this
      injection this with _ this
      exact absurd this (by decide)
    have hn3 : t ≠ b3 := by omega
    refine caseN q55 (fun hp => ?_) (fun hp => ?_)
    · rw [bk_r, sq_r]
      rw [← hf, hp]
      exact ⟨rfl, fun q => by simp at q, hm4⟩
    · rw [hp] at hf
      have g0 : FAt Tryd.prog w4 130 0 ⟨b5, 0, none⟩ 5 (.int .u8 (nu ds d).kind) := FAt.mk' (off := 0) (by kernel_rfl) uU8 rfl (by rw [add_pl, cell_blk hb5]; rfl)
      refine g0.vs q5 fun x73 => ?_
      by_cases hpl : d.places = 0
      · have hnu : nu ds d = ⟨1, vars ds, 0, 0⟩ := by unfold nu; rw [if_pos hpl]
        rw [hnu]
        refine BKeqI (a := 1) (b := 1) rfl rfl (fun _ => condT ?_) (fun q => absurd rfl q)
        rw [q0, NK_ptr]
        have g2 : FAt Tryd.prog w4 124 2 ⟨t, 0, none⟩ 3 (.int .i64 (vars ds)) := FAt.mk' (off := 2) (by kernel_rfl) uI rfl (by rw [add_pl]; exact hfld2 _ _ _ _ _ _ _ _ _ hR4 2 _ rfl)
        refine g2.vk' fun x78 => ?_
        refine BKadd (a := vars ds) (b := 1) rfl rfl (by omega) (by omega) ?_
        rw [NK_ptr, fo124_2, add_pl]
        refine stC (b := t) (o := 0 + 2) rfl (by kernel_rfl) rfl hR4.bt (by simp) fun w5 hb5' hm5 _ => ?_
        have hR5 := hR4.setT (nv' := nv) (av' := av) (vs' := (vars ds : Int) + 1) (cl' := cellsP ds) hm5 hb5' rfl rfl
        rw [bk_n, sq_n]
        refine r5 _ w5 av b5 ?_ (hm5.blk hb4 fun q => hn3 q.symm) (hm5.blk hb5 fun q => hn5 q.symm) (hm4.then hm5 fun i _ q => by rw [q]; exact hOt) hf.symm ?_ ?_ ?_
        · have e1 : (vars (ds ++ [d]) : Int) = (vars ds : Int) + 1 := by rw [vars_snoc, hisV hpl]; simp
          have e2 : cellsP (ds ++ [d]) = cellsP ds := by rw [cellsP_snoc, hpl, Int.add_zero]
          have e3 : arrs (ds ++ [d]) = arrs ds := by rw [arrs_snoc, hisV hpl]; simp
          rw [e1, e2, e3]; exact hR5
        · exact q0
        · exact q3
        · exact q5
      · have hnu : nu ds d = ⟨2, (arrs ds).length, cellsP ds, d.places⟩ := by unfold nu; rw [if_neg hpl]
        have hle : cellsP ds + d.places ≤ 1000 := by
          unfold full at hf
          rw [if_neg hpl] at hf
          have := of_decide_eq_false hf.symm
          omega
        rw [show (nu ds d).kind = 2 by rw [hnu]]
        refine BKeqI (a := 2) (b := 1) rfl rfl (fun q => absurd q (by decide)) (fun _ => condF ?_)
        have h9 : ∀ (KK : Exit → Sl → World → Prop), (∀ (ρ2 : Sl) (w6 : World) (x' : Value), ρ2 0 = pt t → ρ2 3 = pt b3 → ρ2 5 = pt b5 → Raw w6 base t m nv x' (vars (ds ++ [d])) (cellsP (ds ++ [d])) (ds.map fun d => .string d.name) ((arrs (ds ++ [d])).map (.int .i64)) l c → w6.heap[b3]? = some (.cells d.cells.toArray 43 (0, 0)) → w6.heap[b5]? = some (.cells (nu ds d).cells.toArray 130 (0, 0)) → Mod (Own w base) w w6 → KK .normal ρ2 w6) →
            ∀ (ρ9 : Sl), ρ9 0 = pt t → ρ9 3 = pt b3 → ρ9 5 = pt b5 → W fn_ Tryd.prog 101 scope_Table_declare_R9 (seqK (sx fn_ Tryd.prog 101 scope_Table_declare_R10 KK) KK) ρ9 w4 := by
          intro KK kN ρ9 q0 q3 q5
          refine scope_Table_declare_R9_held (D := []) (fun w' => w'.heap[b3]? = some (.cells d.cells.toArray 43 (0, 0)) ∧ w'.heap[b5]? = some (.cells (nu ds d).cells.toArray 130 (0, 0))) ⟨hb4, hb5⟩ ?_
          unfold scope_Table_declare_R9_H
          have hRd := hR4.mod ((Mod.refl none_ w4).drawn (w4.drawn + 1))
          have hbd : ({ w4 with drawn := w4.drawn + 1 } : World).heap[b3]? = some (.cells d.cells.toArray 43 (0, 0)) := hb4
          have hbd5 : ({ w4 with drawn := w4.drawn + 1 } : World).heap[b5]? = some (.cells (nu ds d).cells.toArray 130 (0, 0)) := hb5
          have hmd : Mod (Own w base) w { w4 with drawn := w4.drawn + 1 } := hm4.drawn _
          generalize ({ w4 with drawn := w4.drawn + 1 } : World) = wd at hRd hbd hbd5 hmd ⊢
          have e1 : (vars (ds ++ [d]) : Int) = (vars ds : Int) := by rw [vars_snoc, hnotV hpl]; simp
          have e2 : cellsP (ds ++ [d]) = cellsP ds + d.places := by rw [cellsP_snoc]
          have e3 : (arrs (ds ++ [d])).map (.int .i64) = (arrs ds).map (Value.int .i64) ++ [.int .i64 d.places] := by rw [arrs_snoc, hnotV hpl]; simp
          have hav5 : av.ownBlock ≠ some b5 := owns_ne_blk hRd.oa hbd5 (by decide)
          have hend : ∀ (ρ2 : Sl) (x' : Value) (w5 : World), ρ2 0 = pt t → ρ2 3 = pt b3 → ρ2 5 = pt b5 → Raw w5 base t m nv x' (vars ds) (cellsP ds) (ds.map fun d => .string d.name) ((arrs ds).map (Value.int .i64) ++ [.int .i64 d.places]) l c → w5.heap[b3]? = some (.cells d.cells.toArray 43 (0, 0)) → w5.heap[b5]? = some (.cells (nu ds d).cells.toArray 130 (0, 0)) → Mod (Own w base) w w5 →
              sx fn_ Tryd.prog 101 scope_Table_declare_R10 KK ρ2 w5 := by
            intro ρ2 x' w5 q0 q3 q5 hR5 hb53 hb55 hm5
            rw [R10_W]
            refine scope_Table_declare_R10_held (D := []) (fun w' => w'.heap[b3]? = some (.cells d.cells.toArray 43 (0, 0))) hb53 ?_
            unfold scope_Table_declare_R10_H
            have hRd := hR5.mod ((Mod.refl none_ w5).drawn (w5.drawn + 1))
            have hbd : ({ w5 with drawn := w5.drawn + 1 } : World).heap[b3]? = some (.cells d.cells.toArray 43 (0, 0)) := hb53
            have hbd5 : ({ w5 with drawn := w5.drawn + 1 } : World).heap[b5]? = some (.cells (nu ds d).cells.toArray 130 (0, 0)) := hb55
            have hmd : Mod (Own w base) w { w5 with drawn := w5.drawn + 1 } := hm5.drawn _
            generalize ({ w5 with drawn := w5.drawn + 1 } : World) = wd at hRd hbd hbd5 hmd ⊢
            rw [q0, q3]
            refine HN_ptr (HV_of (fun w' _ => run_fo (off := 4) (by kernel_rfl) _ w') (HV_of (fun w' _ => run_fo (off := 1) (by kernel_rfl) _ w') (HV_of (fun w' hw => run_ld1 uI rfl (v := .int .i64 d.places) (by rw [add_pl, cell_blk hw]; rfl)) ?_)))
            refine ld1 (v := .int .i64 (cellsP ds)) uI rfl (by rw [add_pl]; exact hfld2 _ _ _ _ _ _ _ _ _ hRd 4 _ rfl) ⟨hbd, ?_⟩
            refine HB_of (v := .int .i64 (cellsP ds + d.places)) (fun _ => rfl) (fun w => by have := wrap_i (n := cellsP ds + d.places) (by omega) (by omega); simp [go_sem, this]) ?_
            refine HN_ptr (HV_of (fun w' _ => run_fo (off := 4) (by kernel_rfl) _ w') ?_)
            rw [add_pl]
            refine stC (b := t) (o := 0 + 4) rfl (by kernel_rfl) rfl hRd.bt (by simp) fun w6 hb6 hm6 _ => ?_
            refine ⟨hm6.blk hbd fun q => hn3 q.symm, ?_⟩
            have hR6 := hRd.setT (nv' := nv) (av' := x') (vs' := (vars ds : Int)) (cl' := cellsP ds + d.places) hm6 hb6 rfl rfl
            refine kN _ w6 x' ?_ ?_ ?_ ?_ (hm6.blk hbd fun q => hn3 q.symm) (hm6.blk hbd5 fun q => hn5 q.symm) (hmd.then hm6 fun i _ q => by rw [q]; exact hOt)
            · exact q0
            · exact q3
            · exact q5
            · rw [e1, e2, e3]; exact hR6
          have hnb : av.ownBlock ≠ some b3 := owns_ne_blk hRd.oa hbd (by decide)
          have keep : ∀ w6, Mod none_ wd w6 → ∀ w', Mod (fun i => some i = av.ownBlock ∨ i = t) w6 w' → w'.heap[b3]? = some (.cells d.cells.toArray 43 (0, 0)) ∧ w'.heap[b5]? = some (.cells (nu ds d).cells.toArray 130 (0, 0)) := fun w6 h6 w' h => ⟨h.blk (h6.blk hbd id) (by rintro (q | q); exact hnb q.symm; exact hn3 q.symm), h.blk (h6.blk hbd5 id) (by rintro (q | q); exact hav5 q.symm; exact hn5 q.symm)⟩
          rw [q0, q3]
          refine HN_ptr (HV_of (fun w' _ => run_fo (off := 3) (by kernel_rfl) _ w') (HV_of (fun w' _ => run_fo (off := 1) (by kernel_rfl) _ w') (HV_of (fun w' hw => run_ld1 uI rfl (v := .int .i64 d.places) (by rw [add_pl, cell_blk hw.1]; rfl)) ⟨?_, ?_⟩)))
          · refine ld1 (v := av) uIs rfl (by rw [add_pl]; exact hfld2 _ _ _ _ _ _ _ _ _ hRd 3 _ rfl) ⟨⟨hbd, hbd5⟩, ?_⟩
            refine bs_k (cs := #[.int .i64 d.places]) (by kernel_rfl) fun w6 hb6 hm6 hz6 => ⟨⟨hm6.blk hbd id, hm6.blk hbd5 id⟩, ?_⟩
            refine app_arrs (hRd.mod hm6) (by simpa using reads_blk (size := 1) (n := 1) hb6 rfl) rfl (by have := arrs_le ds; rw [List.length_map]; omega) (keep w6 hm6) fun x1 x2 v' w' hRe hS hme => ?_
            rw [sq_n]
            refine hend _ v' w' ?_ ?_ ?_ hRe hS.1 hS.2 (hmd.trans ((hm6.mono fun _ _ q => q.elim).trans (hme.mono fun i _ q => q.elim (hOa i) fun e => by rw [e]; exact hOt)))
            · exact q0
            · exact q3
            · exact q5
          · refine bs_k (cs := #[.int .i64 d.places]) (by kernel_rfl) fun w6 hb6 hm6 hz6 => ⟨⟨hm6.blk hbd id, hm6.blk hbd5 id⟩, ?_⟩
            refine ld1 (v := av) uIs rfl (by rw [add_pl]; exact hfld2 _ _ _ _ _ _ _ _ _ (hRd.mod hm6) 3 _ rfl) ⟨⟨hm6.blk hbd id, hm6.blk hbd5 id⟩, ?_⟩
            refine app_arrs (hRd.mod hm6) (by simpa using reads_blk (size := 1) (n := 1) hb6 rfl) rfl (by have := arrs_le ds; rw [List.length_map]; omega) (keep w6 hm6) fun x1 x2 v' w' hRe hS hme => ?_
            rw [sq_n]
            refine hend _ v' w' ?_ ?_ ?_ hRe hS.1 hS.2 (hmd.trans ((hm6.mono fun _ _ q => q.elim).trans (hme.mono fun i _ q => q.elim (hOa i) fun e => by rw [e]; exact hOt)))
            · exact q0
            · exact q3
            · exact q5
        refine h9 _ (fun ρ2 w6 x' q0 q3 q5 hR6 h3 h5 hm6 => ?_) _ ?_ ?_ ?_
        · rw [bk_n, sq_n]
          exact r5 _ w6 x' b5 hR6 h3 h5 hm6 hf.symm q0 q3 q5
        · exact q0
        · exact q3
        · exact q5
  have kv : ∀ (q : d.places = 0), nu ds d = ⟨1, vars ds, 0, 0⟩ := fun q => by unfold nu; rw [if_pos q]
  have ka : ∀ (q : d.places ≠ 0), nu ds d = ⟨2, (arrs ds).length, cellsP ds, d.places⟩ := fun q => by unfold nu; rw [if_neg q]
  have r3 : ∀ (ρ' : Sl) (w4 : World) (b5 : Nat), Raw w4 base t m nv av (vars ds) (cellsP ds) (ds.map fun d => .string d.name) ((arrs ds).map (.int .i64)) l c → w4.heap[b3]? = some (.cells d.cells.toArray 43 (0, 0)) → w4.heap[b5]? = some (.cells (nu ds d).cells.toArray 130 (0, 0)) → Mod (Own w base) w w4 → ρ' 0 = pt t → ρ' 3 = pt b3 → ρ' 5 = pt b5 →
      sx fn_ Tryd.prog 101 scope_Table_declare_R3 (retK Tryd.prog [ResultVar.tmp 4] fun v w' => v = .int .i64 (if full ds d then 4 else 0) ∧ ((if full ds d then (4 : Int) else 0) = 0 → TbAt w' base t (ds ++ [d])) ∧ Mod (Own w base) w w') ρ' w4 := by
    intro ρ' w4 b5 hR4 hb4 hb5 hm4 q0 q3 q5
    rw [scope_Table_declare_R3_eq]
    unfold scope_Table_declare_R3_F
    have g0 : FAt Tryd.prog w4 130 0 ⟨b5, 0, none⟩ 5 (.int .u8 (nu ds d).kind) := FAt.mk' (off := 0) (by kernel_rfl) uU8 rfl (by rw [add_pl, cell_blk hb5]; rfl)
    have g2 : FAt Tryd.prog w4 130 2 ⟨b5, 0, none⟩ 3 (.int .i64 (nu ds d).base) := FAt.mk' (off := 2) (by kernel_rfl) uI rfl (by rw [add_pl, cell_blk hb5]; rfl)
    have g3 : FAt Tryd.prog w4 130 3 ⟨b5, 0, none⟩ 3 (.int .i64 (nu ds d).places) := FAt.mk' (off := 3) (by kernel_rfl) uI rfl (by rw [add_pl, cell_blk hb5]; rfl)
    have gv : FAt Tryd.prog w4 124 2 ⟨t, 0, none⟩ 3 (.int .i64 (vars ds)) := FAt.mk' (off := 2) (by kernel_rfl) uI rfl (by rw [add_pl]; exact hfld2 _ _ _ _ _ _ _ _ _ hR4 2 _ rfl)
    refine g0.vs q5 fun x56 => ?_
    by_cases hpl : d.places = 0
    · rw [show (nu ds d).kind = 1 by rw [kv hpl]]
      refine BKeqI (a := 1) (b := 1) rfl rfl (fun _ => ?_) (fun q => absurd rfl q)
      rw [q0]
      simp only [CondK_bool, MG_u, NG_u, VG_u, UG_u, PG_u, BG_u, CG_u, IG_u, MG_b, NG_b, VG_b, UG_b, PG_b, BG_b, CG_b, IG_b, PK_bool, NK_ptr, not_ok, reduceCtorEq, if_true, if_false, Bool.true_eq_false, Bool.false_eq_true, Bool.not_true, Bool.not_false]
      refine gv.vk' fun x62 => ?_
      have hfull : full ds d = decide (vars ds = 64) := by unfold full; rw [if_pos hpl]
      refine BKeqI (a := vars ds) (b := 64) rfl rfl (fun q => ?_) (fun q => ?_)
      · have hq : vars ds = 64 := by omega
        simp only [CondK_bool, MG_u, NG_u, VG_u, UG_u, PG_u, BG_u, CG_u, IG_u, MG_b, NG_b, VG_b, UG_b, PG_b, BG_b, CG_b, IG_b, PK_bool, NK_ptr, not_ok, reduceCtorEq, if_true, if_false, Bool.true_eq_false, Bool.false_eq_true, Bool.not_true, Bool.not_false]
        refine r6 _ w4 b5 true hR4 hb4 hb5 hm4 (by rw [hfull, decide_eq_true hq]) rfl ?_ ?_ ?_
        · exact q0
        · exact q3
        · exact q5
      · have hq : vars ds ≠ 64 := by omega
        simp only [CondK_bool, MG_u, NG_u, VG_u, UG_u, PG_u, BG_u, CG_u, IG_u, MG_b, NG_b, VG_b, UG_b, PG_b, BG_b, CG_b, IG_b, PK_bool, NK_ptr, not_ok, reduceCtorEq, if_true, if_false, Bool.true_eq_false, Bool.false_eq_true, Bool.not_true, Bool.not_false]
        refine g2.vs q5 fun x66 => g3.vs q5 fun x68 => ?_
        rw [show (nu ds d).base = 0 by rw [kv hpl], show (nu ds d).places = 0 by rw [kv hpl]]
        refine BKadd (a := 0) (b := 0) rfl rfl (by decide) (by decide) ?_
        refine BKgtr (a := 0 + 0) (b := 1000) rfl rfl ?_
        refine r6 _ w4 b5 false hR4 hb4 hb5 hm4 (by rw [hfull, decide_eq_false hq]) rfl ?_ ?_ ?_
        · exact q0
        · exact q3
        · exact q5
    · rw [show (nu ds d).kind = 2 by rw [ka hpl]]
      refine BKeqI (a := 2) (b := 1) rfl rfl (fun q => absurd q (by decide)) (fun _ => ?_)
      simp only [CondK_bool, MG_u, NG_u, VG_u, UG_u, PG_u, BG_u, CG_u, IG_u, MG_b, NG_b, VG_b, UG_b, PG_b, BG_b, CG_b, IG_b, PK_bool, NK_ptr, not_ok, reduceCtorEq, if_true, if_false, Bool.true_eq_false, Bool.false_eq_true, Bool.not_true, Bool.not_false]
      have hfull : full ds d = decide (1000 < cellsP ds + d.places) := by unfold full; rw [if_neg hpl]
      refine g2.vs q5 fun x66 => g3.vs q5 fun x68 => ?_
      rw [show (nu ds d).base = cellsP ds by rw [ka hpl], show (nu ds d).places = d.places by rw [ka hpl]]
      refine BKadd (a := cellsP ds) (b := d.places) rfl rfl (by omega) (by omega) ?_
      refine BKgtr (a := cellsP ds + d.places) (b := 1000) rfl rfl ?_
      refine r6 _ w4 b5 (decide (1000 < cellsP ds + d.places)) hR4 hb4 hb5 hm4 hfull.symm rfl ?_ ?_ ?_
      · exact q0
      · exact q3
      · exact q5
  have r2 : ∀ (ρ' : Sl), ρ' 0 = pt t → ρ' 3 = pt b3 →
      sx fn_ Tryd.prog 101 scope_Table_declare_R2 (retK Tryd.prog [ResultVar.tmp 4] fun v w' => v = .int .i64 (if full ds d then 4 else 0) ∧ ((if full ds d then (4 : Int) else 0) = 0 → TbAt w' base t (ds ++ [d])) ∧ Mod (Own w base) w w') ρ' w2 := by
    intro ρ' q0 q3
    rw [scope_Table_declare_R2_eq]
    unfold scope_Table_declare_R2_F
    have gv : FAt Tryd.prog w2 124 2 ⟨t, 0, none⟩ 3 (.int .i64 (vars ds)) := FAt.mk' (off := 2) (by kernel_rfl) uI rfl (by rw [add_pl]; exact hfld2 _ _ _ _ _ _ _ _ _ hR2 2 _ rfl)
    refine NKs q0 ?_
    refine gv.vk' fun x17 => ?_
    rw [build_ok (bEnt1 _)]
    refine lcl_k (cs := (En.mk 1 (vars ds) 0 0).cells.toArray) zEnt _ iEnt rfl (en_one _) fun w3 hb3' hm3 hz3 => ?_
    have hR3 := hR2.mod hm3
    have hb23 := hm3.blk hb2 id
    have hm03 := hm02.trans hm3
    have hlt5 : b3 < w2.heap.size := X.blk_lt hb2
    generalize w2.heap.size = b5 at *
    have gp : FAt Tryd.prog w3 43 1 ⟨b3, 0, none⟩ 3 (.int .i64 d.places) := FAt.mk' (off := 1) (by kernel_rfl) uI rfl (by rw [add_pl, cell_blk hb23]; rfl)
    refine gp.vs q3 fun x20 => ?_
    refine BKgtr (a := d.places) (b := 0) rfl rfl ?_
    refine caseC (fun hpp => ?_) (fun hpp => ?_)
    · have hpl : d.places ≠ 0 := by have := of_decide_eq_true hpp; omega
      have h4 : ∀ (KK : Exit → Sl → World → Prop), (∀ (ρ5 : Sl) (w5 : World), ρ5 0 = pt t → ρ5 3 = pt b3 → ρ5 5 = pt b5 → Raw w5 base t m nv av (vars ds) (cellsP ds) (ds.map fun d => .string d.name) ((arrs ds).map (.int .i64)) l c → w5.heap[b3]? = some (.cells d.cells.toArray 43 (0, 0)) → w5.heap[b5]? = some (.cells (nu ds d).cells.toArray 130 (0, 0)) → Mod (Own w base) w w5 → KK .normal ρ5 w5) →
          ∀ (ρ4 : Sl), ρ4 0 = pt t → ρ4 3 = pt b3 → ρ4 5 = pt b5 → W fn_ Tryd.prog 101 scope_Table_declare_R4 KK ρ4 w3 := by
        intro KK kN ρ4 q0 q3 q5
        refine scope_Table_declare_R4_tail (D := []) ?_
        unfold scope_Table_declare_R4_T
        have hRd := hR3.mod ((Mod.refl none_ w3).drawn (w3.drawn + 1))
        have hbd : ({ w3 with drawn := w3.drawn + 1 } : World).heap[b3]? = some (.cells d.cells.toArray 43 (0, 0)) := hb23
        have hbd5 : ({ w3 with drawn := w3.drawn + 1 } : World).heap[b5]? = some (.cells (En.mk 1 (vars ds) 0 0).cells.toArray 130 (0, 0)) := hb3'
        have hmd : Mod none_ w { w3 with drawn := w3.drawn + 1 } := hm03.drawn _
        generalize ({ w3 with drawn := w3.drawn + 1 } : World) = wd at hRd hbd hbd5 hmd ⊢
        obtain ⟨Aa, ca, hav, _⟩ := reads_cap (reads_of_owns hRd.oa)
        dsimp only
        rw [q0, q3]
        refine QN_ptr (a := ⟨t, 0, none⟩) ?_
        refine Qfo (off := 3) (a := ⟨t, 0, none⟩) (by kernel_rfl) (Qld uIs rfl (v := .slice Aa ((arrs ds).map (Value.int .i64)).length ca) (fun w' hw => by rw [hw, add_pl, ← hav]; exact hfld2 _ _ _ _ _ _ _ _ _ hRd 3 _ rfl) ?_)
        refine QI_len uIs _ _ _ _ ?_
        refine QN_ptr (a := ⟨t, 0, none⟩) ?_
        refine Qfo (off := 4) (a := ⟨t, 0, none⟩) (by kernel_rfl) (Qld uI rfl (v := .int .i64 (cellsP ds)) (fun w' hw => by rw [hw, add_pl]; exact hfld2 _ _ _ _ _ _ _ _ _ hRd 4 _ rfl) ?_)
        refine Qfo (off := 1) (a := ⟨b3, 0, none⟩) (by kernel_rfl) (Qld uI rfl (v := .int .i64 d.places) (fun w' hw => by rw [hw, add_pl, cell_blk hbd]; rfl) ?_)
        rw [build_ok (bEnt2 _ _ _), List.length_map]
        refine stS (b := b5) (old := (En.mk 1 (vars ds) 0 0).cells.toArray) (cs := (nu ds d).cells.toArray) ?_ ?_ iEnt rfl (en_one _) hbd5 fun w5 hb55 hm5 _ => ?_
        · exact q5
        · rw [ka hpl]
        have hn5 : b5 ≠ t ∧ b5 ≠ b3 ∧ b5 ≠ m := by
          refine ⟨?_, ?_, ?_⟩
          · rintro rfl
            have := hRd.bt.symm.trans hbd5
            injection this with this
            injection this with _ this
            exact absurd this (by decide)
          · rintro rfl
            have := hbd.symm.trans hbd5
            injection this with this
            injection this with _ this
            exact absurd this (by decide)
          · rintro rfl
            have := hRd.bm.symm.trans hbd5
            cases this
        have hR5 : Raw w5 base t m nv av (vars ds) (cellsP ds) (ds.map fun d => .string d.name) ((arrs ds).map (.int .i64)) l c :=
          ⟨hm5.blk hRd.bt hn5.1.symm, hRd.bm.mod hm5 hn5.2.2.symm, hRd.lt, hRd.lm, owns_mod hRd.on hm5 (fun k hk q => owns_ne_blk hRd.on hbd5 (by decide) (q ▸ hk)), owns_mod hRd.oa hm5 (fun k hk q => owns_ne_blk hRd.oa hbd5 (by decide) (q ▸ hk))⟩
        refine kN _ w5 ?_ ?_ ?_ hR5 (hm5.blk hbd hn5.2.1.symm) hb55 ((up1 hmd).then hm5 fun i _ q => by omega)
        · exact q0
        · exact q3
        · exact q5
      refine h4 _ (fun ρ5 w5 a b c' h1 h2 h3 h4 => ?_) _ ?_ ?_ ?_
      · rw [sq_n]
        exact r3 _ w5 b5 h1 h2 h3 h4 a b c'
      · exact q0
      · exact q3
      · rfl
    · have hpl : d.places = 0 := by have := of_decide_eq_false hpp; omega
      refine r3 _ w3 b5 hR3 hb23 (by rw [kv hpl]; exact hb3') (up1 hm03) ?_ ?_ rfl
      · exact q0
      · exact q3
  rw [sq_n]
  exact r2 _ rfl rfl
end Go.Proofs.YtpkfbaagpjdifaaDoor.Tr
set_option linter.unusedVariables false
set_option linter.unusedSimpArgs false
set_option maxRecDepth 4000
namespace Go.Proofs.YtpkfbaagpjdifaaDoor.Tr
open Go Go.X Go.RowKit Go.Proofs.YtpkfbaagpjdifaaDoor.XG Go.Proofs.YtpkfbaagpjdifaaDoor.XK
def declsW (pre : List De) : List De → Wr
  | [] => zWr
  | d :: r => if dstep pre d = 0 then declsW (pre ++ [d]) r else ⟨dstep pre d, d.line, d.col⟩
def checkP (p : Pr) : Wr := if p.may then (if (declsW [] p.decls).err = 0 then St.wrL (kindP p.decls) p.body else declsW [] p.decls) else ⟨2, 0, 0⟩
theorem dstep_zero {pre : List De} {d : De} (h : dstep pre d = 0) : (findP pre d.key).kind = 0 ∧ full pre d = false := by
  unfold dstep at h
  split at h
  · simp at h
  · rename_i q
    split at h
    · simp at h
    · rename_i q2; exact ⟨by simpa using q, by simpa using q2⟩
theorem lim_snoc {pre : List De} {d : De} (h : full pre d = false) (hp : 0 ≤ d.places) (hv : vars pre ≤ 64) (hc : cellsP pre ≤ 1000) : vars (pre ++ [d]) ≤ 64 ∧ cellsP (pre ++ [d]) ≤ 1000 := by
  unfold full at h
  rw [vars_snoc, cellsP_snoc]
  by_cases q : d.places = 0
  · rw [if_pos q] at h
    have := of_decide_eq_false h
    rw [show isV d = true from decide_eq_true q]
    simp only [if_true]
    omega
  · rw [if_neg q] at h
    have := of_decide_eq_false h
    rw [show isV d = false from decide_eq_false q]
    simp only [Bool.false_eq_true, if_false]
    omega
theorem bTb (m : Nat) : Tryd.prog.built 124 [(1, .map (some m))] = some #[.slice none 0 0, .map (some m), .int .i64 0, .slice none 0 0, .int .i64 0] := by kernel_rfl
theorem TbAt.low {w : World} {base base' t : Nat} {ds : List De} (h : TbAt w base t ds) (hb : base' ≤ base) : TbAt w base' t ds := by
  obtain ⟨nv, av, m, l, c, h1, h2, h3, h4, h5, h6, h7⟩ := h.at'
  exact ⟨⟨nv, av, m, l, c, h1, h2, h3, by omega, by omega, owns_base h6 hb, owns_base h7 hb⟩⟩
theorem TbAt.off {w w' : World} {S : Nat → Prop} {base t : Nat} {ds : List De} (h : TbAt w base t ds) (hm : Mod S w w') (hS : ∀ i, S i → i < base) : TbAt w' base t ds := by
  obtain ⟨nv, av, m, l, c, h1, h2, h3, h4, h5, h6, h7⟩ := h.at'
  have hn : ∀ {i}, base ≤ i → ¬ S i := fun h q => by have := hS _ q; omega
  exact ⟨⟨nv, av, m, l, c, hm.blk h1 (hn h4), h2.mod hm (hn h5), h3, h4, h5, owns_mod h6 hm (fun k hk => hn (owns_ge h6 hk)), owns_mod h7 hm (fun k hk => hn (owns_ge h7 hk))⟩⟩
structure Told (p : Pr) (w : World) (x : Value) (w' : World) : Prop where
  m : Mod none_ w w'
  ok : (checkP p).err = 0 → p.may = true ∧ (declsW [] p.decls).err = 0 ∧ ∃ t, x = pt t ∧ TbAt w' w.heap.size t p.decls
  bad : (checkP p).err ≠ 0 → x = .pointer none
theorem New_ok {w : World} (hg : Gl w) {p : Pr} (h : p.Ok w) (hf : p.fits) : Rt Tryd.prog 73 #[.agg p.cells.toArray] w fun v w' => ∃ x, v = .tuple #[x, (checkP p).v] ∧ Told p w x w' := by
  refine scope_New_calls ?_
  unfold scope_New_F
  refine box_k (cs := p.cells.toArray) rfl fun w1 hb1 hm1 hz1 => ?_
  refine al_k zWrg rfl _ fun w2 hb2 hm2 hz2 => ?_
  have hb12 := hm2.blk hb1 id
  have hm12 := hm1.trans hm2
  refine ldB (cs := p.cells.toArray) Tryd.underlying34 rfl iPr hb12 ?_
  refine CK_st Tryd.func7 rfl rfl (May_ok (hg.mod hm12) (h.mod hm12) hf) ?_
  rintro _ w3 ⟨rfl, hm3⟩
  rw [not_ok]
  have hm13 := hm12.trans hm3
  have hb13 := hm3.blk hb12 id
  have hb23 := hm3.blk hb2 id
  generalize hx3 : w1.heap.size = b3 at *
  cases hmay : p.may with
  | false =>
    refine condT ?_
    rw [build_ok (bWr1 2)]
    refine stS (b := b3) (old := zWr.cells.toArray) (cs := (Wr.mk 2 0 0).cells.toArray) rfl rfl iWrg rfl (wr_one _) hb23 fun w4 hb4 hm4 _ => ?_
    have hcp : checkP p = ⟨2, 0, 0⟩ := by unfold checkP; rw [hmay]; rfl
    refine ⟨_, res_ld (run_ldB (cs := (Wr.mk 2 0 0).cells.toArray) Tryd.underlying54 rfl iWrg hb4), _, by rw [hcp]; rfl, hm13.then hm4 (fun i hi q => absurd q (by omega)), fun q => ?_, fun _ => rfl⟩
    rw [hcp] at q; simp at q
  | true =>
    refine condF ?_
    have hmays : ∀ d ∈ p.decls, d.may = true := by
      unfold Pr.may at hmay
      simp only [Bool.and_eq_true, List.all_eq_true] at hmay
      exact hmay.1.2
    refine make_ok (enc := encK) 121 fun w4 hIs hm4 hz4 => ?_
    rw [build_ok (bTb _)]
    refine box_k (cs := #[.slice none 0 0, .map (some w3.heap.size), .int .i64 0, .slice none 0 0, .int .i64 0]) rfl fun w5 hb5 hm5 hz5 => ?_
    have hlt3 : w3.heap.size < w4.heap.size := by omega
    have hbase : b3 < w3.heap.size := X.blk_lt hb23
    have hT0 : TbAt w5 w3.heap.size w4.heap.size [] :=
      ⟨⟨_, _, _, [], 0, hb5, hIs.mod hm5 id, fun k => rfl, by omega, by omega, ⟨rfl, .inl ⟨rfl, rfl⟩⟩, ⟨rfl, .inl ⟨rfl, rfl⟩⟩⟩⟩
    have hm35 := hm4.trans hm5
    have hm15 := hm13.trans hm35
    have hb15 := hm35.blk hb13 id
    have hb25 := hm35.blk hb23 id
    have hb1lt : w.heap.size < b3 := by omega
    have h5 := h.mod hm15
    obtain ⟨A, c, hs, _⟩ := reads_cap h.d.1
    generalize w3.heap.size = base at *
    generalize w4.heap.size = t at *
    have f0 : FAt Tryd.prog w5 34 0 ⟨w.heap.size, 0, none⟩ 32 (.slice A p.decls.length c) := FAt.mk' (off := 0) (by kernel_rfl) uDes rfl (by rw [add_pl, cell_blk hb15, ← hs]; rfl)
    refine f0.vk' fun x16 => ?_
    rw [len32]
    have hcp : checkP p = (if (declsW [] p.decls).err = 0 then St.wrL (kindP p.decls) p.body else declsW [] p.decls) := by unfold checkP; rw [hmay]; rfl
    clear hm1 hz1 hb1 hm2 hz2 hb2 hm12 hb12 hb13 hb23 hm3 hIs hm4 hz4 hb5 hm5 hz5 hm13 hm35
    refine W_loop scope_New_L0_ok (fun ρ w' => ∃ n : Nat, n ≤ p.decls.length ∧ ρ 19 = .int .i64 n ∧ ρ 18 = .int .i64 p.decls.length ∧ ρ 17 = .slice A p.decls.length c ∧ ρ 1 = pt w.heap.size ∧ ρ 3 = pt b3 ∧ ρ 4 = pt t ∧ TbAt w' base t (p.decls.take n) ∧ vars (p.decls.take n) ≤ 64 ∧ cellsP (p.decls.take n) ≤ 1000 ∧ declsW [] p.decls = declsW (p.decls.take n) (p.decls.drop n) ∧ Mod (fun i => base ≤ i) w5 w') (fun ρ _ => p.decls.length - (intOf (ρ 19)).toNat)
      ⟨0, Nat.zero_le _, rfl, rfl, rfl, rfl, rfl, rfl, hT0, Nat.zero_le _, (by rw [List.take_zero]; decide), rfl, Mod.refl _ _⟩ ?_
    rintro ρ w6 ⟨n, hn, h19, h18, h17, h1, h3, h4, hT, hv, hc, hdW, hm6⟩
    have hb16 := hm6.blk hb15 (by omega)
    have hb26 := hm6.blk hb25 (by omega)
    have hm06 : Mod none_ w w6 := hm15.then hm6 fun i hi q => by omega
    rw [scope_New_L0_eq]
    unfold scope_New_L0_F
    rw [h19, h18, h17]
    refine BKlss (a := n) (b := p.decls.length) rfl rfl ?_
    by_cases hlt : n < p.decls.length
    · rw [show decide ((n : Int) < (p.decls.length : Int)) = true by rw [decide_eq_true_eq]; omega]
      refine condT ?_
      have hx : p.decls[n]? = some p.decls[n] := List.getElem?_eq_getElem hlt
      have hmem : p.decls[n] ∈ p.decls := List.getElem_mem hlt
      have hds6 := h.d.mod hm06
      rw [hs] at hds6
      refine ixDe hds6 hx fun y => ?_
      refine lcl_k (cs := p.decls[n].cells.toArray) zDe _ iDe rfl (de_one _) fun w7 hb7 hm7 hz7 => ?_
      refine ldS (b := w6.heap.size) (cs := p.decls[n].cells.toArray) rfl Tryd.underlying43 rfl iDe hb7 ?_
      rw [h4]
      have hlen' := hf.1
      have htl : (p.decls.take n).length = n := by rw [List.length_take]; omega
      have htake : p.decls.take (n + 1) = p.decls.take n ++ [p.decls[n]] := by rw [List.take_add_one, hx, Option.toList_some]
      have hdrop : p.decls.drop n = p.decls[n] :: p.decls.drop (n + 1) := (List.getElem_cons_drop hlt).symm
      have hp := may_places (hmays _ hmem)
      have hb17 := hm7.blk hb16 id
      have hb27 := hm7.blk hb26 id
      have hlt6 : base < w6.heap.size := by have := hm6.size; have := hT.raw; obtain ⟨_, _, m, _, _, hR, _⟩ := this; have := hR.fld; have := hR.lt; have := hR.bm; have := X.blk_lt this; have := hR.lm; omega
      refine CK_st Tryd.func88 rfl rfl (declare_ok (hT.mod hm7) ⟨by omega, fun d hd => hmays d (List.mem_of_mem_take hd)⟩ (by omega) hv hc (hmays _ hmem)) ?_
      rintro _ w8 ⟨rfl, hTn, hm8⟩
      have hdl : w8.heap[w6.heap.size]? = some (.cells p.decls[n].cells.toArray 43 (0, 0)) := hm8.blk hb7 fun q => q.2 _ _ hb7
      have hm58 : Mod (fun i => base ≤ i) w5 w8 := (hm6.trans (hm7.mono fun _ _ q => q.elim)).trans (hm8.mono fun _ _ q => q.1)
      rw [hdrop, declsW] at hdW
      refine BKneI (a := dstep (p.decls.take n) p.decls[n]) (b := 0) rfl rfl (fun hz => condF ?_) (fun hz => condT ?_)
      · obtain ⟨_, hfull⟩ := dstep_zero hz
        obtain ⟨hv', hc'⟩ := lim_snoc hfull hp.1 hv hc
        rw [if_pos hz] at hdW
        refine BKadd (a := n) (b := 1) rfl rfl (by omega) (by omega) ?_
        refine ⟨⟨n + 1, hlt, rfl, h18, h17, h1, h3, h4, ?_, ?_, ?_, ?_, hm58⟩, ?_⟩
        · rw [htake]; exact hTn hz
        · rw [htake]; exact hv'
        · rw [htake]; exact hc'
        · rw [htake]; exact hdW
        · show p.decls.length - (intOf (Value.int .i64 ((n : Int) + 1))).toNat < _
          simp only [intOf]; omega
      · rw [if_neg hz] at hdW
        have hcp' : checkP p = ⟨dstep (p.decls.take n) p.decls[n], p.decls[n].line, p.decls[n].col⟩ := by rw [hcp, hdW, if_neg hz]
        have hb18 := hm8.blk hb17 (fun q => by have := q.1; omega)
        have hb28 := hm8.blk hb27 (fun q => by have := q.1; omega)
        have hm08 : Mod none_ w w8 := hm15.then hm58 fun i hi q => by omega
        have e2 : ∀ (KK : Exit → Sl → World → Prop), (∀ (ρ3 : Sl) (w9 : World), ρ3 3 = pt b3 → ρ3 2 = .pointer none → w9.heap[b3]? = some (.cells (checkP p).cells.toArray 54 (0, 0)) → Mod (fun i => i = b3) w8 w9 → KK .normal ρ3 w9) → ∀ (ρ2 : Sl), ρ2 3 = pt b3 → ρ2 6 = pt w6.heap.size → ρ2 7 = .int .i64 (dstep (p.decls.take n) p.decls[n]) → W fn_ Tryd.prog 45 scope_New_R2 KK ρ2 w8 := by
          intro KK kN ρ2 q3 q6 q7
          refine scope_New_R2_tail (D := []) ?_
          unfold scope_New_R2_T
          have hbd : ({ w8 with drawn := w8.drawn + 1 } : World).heap[w6.heap.size]? = some (.cells p.decls[n].cells.toArray 43 (0, 0)) := hdl
          have hbd3 : ({ w8 with drawn := w8.drawn + 1 } : World).heap[b3]? = some (.cells zWr.cells.toArray 54 (0, 0)) := hb28
          have hmd : Mod (fun i => i = b3) w8 { w8 with drawn := w8.drawn + 1 } := (Mod.refl _ w8).drawn _
          generalize ({ w8 with drawn := w8.drawn + 1 } : World) = wd at hbd hbd3 hmd ⊢
          dsimp only
          rw [q6, q7]
          refine Qfo (off := 2) (a := ⟨w6.heap.size, 0, none⟩) (by kernel_rfl) (Qld uI rfl (v := .int .i64 p.decls[n].line) (fun w' hw => by rw [hw, add_pl, cell_blk hbd]; rfl) ?_)
          refine Qfo (off := 3) (a := ⟨w6.heap.size, 0, none⟩) (by kernel_rfl) (Qld uI rfl (v := .int .i64 p.decls[n].col) (fun w' hw => by rw [hw, add_pl, cell_blk hbd]; rfl) ?_)
          refine QV_of (fun w' _ => build_run (bWr3 _ _ _)) ?_
          refine stS (b := b3) (old := zWr.cells.toArray) (cs := (checkP p).cells.toArray) q3 (by rw [hcp']) iWrg rfl (wr_one _) hbd3 fun w9 hb9 hm9 _ => ?_
          refine kN _ w9 ?_ rfl hb9 (hmd.trans hm9)
          exact q3
        refine e2 _ (fun ρ3 w9 q3 q2 hb9 hm9 => ?_) _ ?_ ?_ rfl
        · rw [sq_n, scope_New_R3_eq]
          unfold scope_New_R3_F
          rw [bk_r, sq_r, sq_r, bk_r, sq_r]
          refine rtTC (b := b3) (cs := (checkP p).cells.toArray) q3 Tryd.underlying54 rfl iWrg hb9 ?_
          refine ⟨_, by rw [q2]; rfl, hm08.then hm9 (fun i hi q => absurd q (by omega)), fun q => ?_, fun _ => rfl⟩
          rw [hcp'] at q; exact absurd q hz
        · exact h3
        · rfl
    · obtain rfl : n = p.decls.length := by omega
      rw [show decide (((p.decls.length : Nat) : Int) < (p.decls.length : Int)) = false by simp]
      refine condF ?_
      rw [List.take_length] at hT hv hc
      rw [List.drop_length, List.take_length, declsW] at hdW
      rw [hdW] at hcp
      rw [if_pos (show zWr.err = 0 from rfl)] at hcp
      rw [sq_x, bk_x, sq_n, scope_New_R1_eq]
      unfold scope_New_R1_F
      have f1 : FAt Tryd.prog w6 34 1 ⟨w.heap.size, 0, none⟩ 23 p.bs := FAt.mk' (off := 1) (by kernel_rfl) uSts rfl (by rw [add_pl, cell_blk hb16]; rfl)
      refine f1.vs h1 fun x36 => ?_
      refine CK_eq (bs := [pt t, p.bs]) rfl ?_ (CK_st Tryd.func89 rfl rfl (look_ok' hT (h.b.mod hm06) hf.2) ?_)
      · exact congrArg (fun z => [z, p.bs]) h4
      rintro _ w7 ⟨rfl, hm7⟩
      refine lcl_k (cs := (St.wrL (kindP p.decls) p.body).cells.toArray) zWrg _ iWrg rfl (wr_one _) fun w8 hb8 hm8 hz8 => ?_
      have hb28 := (hm7.trans hm8).blk hb26 id
      have hm08 := (hm06.trans hm7).trans hm8
      have hT8 := (hT.mod hm7).mod hm8
      have hlt8 : b3 < w7.heap.size := by have := X.blk_lt hb26; have := hm7.size; omega
      generalize w7.heap.size = b8 at *
      have g0 : FAt Tryd.prog w8 54 0 ⟨b8, 0, none⟩ 38 (.int .i64 (St.wrL (kindP p.decls) p.body).err) := FAt.mk' (off := 0) (by kernel_rfl) uErrI rfl (by rw [add_pl, cell_blk hb8]; rfl)
      refine g0.vk' fun x39 => ?_
      refine BKneI (a := (St.wrL (kindP p.decls) p.body).err) (b := 0) rfl rfl (fun hz => condF ?_) (fun hz => condT ?_)
      · have he : (checkP p).err = 0 := by rw [hcp]; exact hz
        have hcz : checkP p = zWr := by rw [hcp]; exact St.wrL_z _ (fun a _ => St.wr_z a) hz
        rw [build_ok bWr0]
        refine stS (b := b3) (old := zWr.cells.toArray) (cs := zWr.cells.toArray) h3 rfl iWrg rfl (wr_one _) hb28 fun w9 hb9 hm9 _ => ?_
        refine rtTC (b := b3) (cs := zWr.cells.toArray) ?_ Tryd.underlying54 rfl iWrg hb9 ?_
        · exact h3
        · refine ⟨_, by rw [hcz]; rfl, hm08.then hm9 (fun i hi q => absurd q (by omega)), fun _ => ⟨hmay, by rw [hdW]; rfl, t, ?_, ?_⟩, fun q => absurd he q⟩
          · exact h4
          · exact (hT8.off hm9 fun i q => by omega).low (by omega)
      · have he : (checkP p).err ≠ 0 := by rw [hcp]; exact hz
        have e5 : ∀ (KK : Exit → Sl → World → Prop), (∀ (ρ3 : Sl) (w9 : World), ρ3 3 = pt b3 → ρ3 2 = .pointer none → w9.heap[b3]? = some (.cells (checkP p).cells.toArray 54 (0, 0)) → Mod (fun i => i = b3) w8 w9 → KK .normal ρ3 w9) → ∀ (ρ2 : Sl), ρ2 3 = pt b3 → ρ2 8 = pt b8 → W fn_ Tryd.prog 45 scope_New_R5 KK ρ2 w8 := by
          intro KK kN ρ2 q3 q8
          refine scope_New_R5_tail (D := []) ?_
          unfold scope_New_R5_T
          have hbd : ({ w8 with drawn := w8.drawn + 1 } : World).heap[b8]? = some (.cells (St.wrL (kindP p.decls) p.body).cells.toArray 54 (0, 0)) := hb8
          have hbd3 : ({ w8 with drawn := w8.drawn + 1 } : World).heap[b3]? = some (.cells zWr.cells.toArray 54 (0, 0)) := hb28
          have hmd : Mod (fun i => i = b3) w8 { w8 with drawn := w8.drawn + 1 } := (Mod.refl _ w8).drawn _
          generalize ({ w8 with drawn := w8.drawn + 1 } : World) = wd at hbd hbd3 hmd ⊢
          dsimp only
          rw [q8]
          refine QV_of (v := (checkP p).v) (fun w' hw => by rw [hw, hcp]; exact run_ldB (cs := (St.wrL (kindP p.decls) p.body).cells.toArray) Tryd.underlying54 rfl iWrg hbd) ?_
          refine stS (b := b3) (old := zWr.cells.toArray) (cs := (checkP p).cells.toArray) q3 rfl iWrg rfl (wr_one _) hbd3 fun w9 hb9 hm9 _ => ?_
          refine kN _ w9 ?_ rfl hb9 (hmd.trans hm9)
          exact q3
        refine e5 _ (fun ρ3 w9 q3 q2 hb9 hm9 => ?_) _ ?_ ?_
        · rw [sq_n, scope_New_R6_eq]
          unfold scope_New_R6_F
          rw [sq_r]
          refine rtTC (b := b3) (cs := (checkP p).cells.toArray) q3 Tryd.underlying54 rfl iWrg hb9 ?_
          exact ⟨_, by rw [q2]; rfl, hm08.then hm9 (fun i hi q => absurd q (by omega)), fun q => absurd q he, fun _ => rfl⟩
        · exact h3
        · rfl
end Go.Proofs.YtpkfbaagpjdifaaDoor.Tr
set_option linter.unusedVariables false
set_option linter.unusedSimpArgs false
set_option maxRecDepth 4000
namespace Go.Proofs.YtpkfbaagpjdifaaDoor.Tr
open Go Go.X Go.RowKit Go.Proofs.YtpkfbaagpjdifaaDoor.XG Go.Proofs.YtpkfbaagpjdifaaDoor.XK
theorem flat_take (l : List De) : ∀ m : Nat, (l.flatMap De.cells).take (m * 4) = (l.take m).flatMap De.cells := by
  induction l with
  | nil => intro m; simp
  | cons d r ih =>
    intro m
    cases m with
    | zero => simp
    | succ m =>
      rw [List.flatMap_cons, List.take_succ_cons, List.flatMap_cons, show (m + 1) * 4 = m * 4 + 4 by omega, List.take_append]
      have : d.cells.length = 4 := rfl
      rw [this, List.take_of_length_le (by rw [this]; omega), show m * 4 + 4 - 4 = m * 4 by omega, ih]
theorem DesOk.cut {w : World} {A : Option Addr} {c : Nat} {l : List De} (h : DesOk w (.slice A l.length c) l) {m : Nat} (hm : m ≤ l.length) : DesOk w (sliced A 0 m c 4) (l.take m) := by
  refine ⟨?_, fun a ha => h.2 a (List.mem_of_mem_take ha)⟩
  have := reads_cut h.1 hm 4
  rw [flat_take] at this
  rw [List.length_take, Nat.min_eq_left hm]
  exact this
end Go.Proofs.YtpkfbaagpjdifaaDoor.Tr
set_option linter.unusedVariables false
set_option linter.unusedSimpArgs false
set_option maxRecDepth 4000
namespace Go.Proofs.YtpkfbaagpjdifaaDoor.Tr
open Go Go.X Go.RowKit Go.Proofs.YtpkfbaagpjdifaaDoor.XF Go.Proofs.YtpkfbaagpjdifaaDoor.XK
def ManySt (l : List St) : Prop := ∀ (w : World) (s : Value), StsOk w s l → St.szL l ≤ 1099511627776 → Rt Tryd.prog 5 #[s] w fun v w' => v = .int .i64 (St.manyL l) ∧ Mod none_ w w'
theorem manySt_row {l : List St} (ih : ∀ a ∈ l, ManySt a.body ∧ ManySt a.els) : ManySt l := by
  intro w s hok hsz
  obtain ⟨A, c, hs, _⟩ := reads_cap hok.1
  have hlen := St.len_sz l
  refine dispatcherref02_Many_calls ?_
  unfold dispatcherref02_Many_F
  refine W_loop dispatcherref02_Many_L0_ok (fun ρ w' => ∃ (n : Nat), n ≤ l.length ∧ ρ 4 = .int .i64 n ∧ ρ 3 = .int .i64 (St.manyL (l.take n)) ∧ ρ 0 = s ∧ Mod none_ w w') (fun ρ _ => l.length - (intOf (ρ 4)).toNat)
    ⟨0, Nat.zero_le _, rfl, rfl, rfl, Mod.refl _ _⟩ ?_
  rintro ρ w1 ⟨n, hn, h4, h3, h0, hm⟩
  rw [dispatcherref02_Many_L0_eq]
  unfold dispatcherref02_Many_L0_F
  rw [h0, hs, h4, len23, BK_lss]
  by_cases hlt : n < l.length
  · rw [show decide ((n : Int) < (l.length : Int)) = true by rw [decide_eq_true_eq]; omega]
    refine condT ?_
    have hx : l[n]? = some l[n] := List.getElem?_eq_getElem hlt
    have hmem : l[n] ∈ l := List.getElem_mem hlt
    obtain ⟨ihB, ihE⟩ := ih _ hmem
    have hs2 := St.szL_at hx
    have hse := St.sz_eq l[n]
    have hokC : ∀ w', Mod none_ w1 w' → StsOk w' (.slice A l.length c) l := fun w' hw => by rw [← hs]; exact (hok.mod hm).mod hw
    refine dispatcherref02_Many_R2_quiet (D := []) (fun w' => Mod none_ w1 w') ((Mod.refl _ w1).drawn _) ?_
    unfold dispatcherref02_Many_R2_Q
    have e3 : ∀ a b d f : Value, (up (up (up (up ρ 5 a) 6 b) 7 d) 8 f) 3 = .int .i64 (St.manyL (l.take n)) := fun _ _ _ _ => h3
    have e0 : ∀ a b d f : Value, (up (up (up (up ρ 5 a) 6 b) 7 d) 8 f) 0 = .slice A l.length c := fun _ _ _ _ => h0.trans hs
    have e4 : ∀ a b d f : Value, (up (up (up (up ρ 5 a) 6 b) 7 d) 8 f) 4 = .int .i64 n := fun _ _ _ _ => h4
    simp only [e3, e0, e4]
    have ht := St.manyL_sz (l.take n)
    have hb := St.many_sz l[n]
    have hbe := St.many_eq l[n]
    have hrow := fun w' hw => (hokC w' hw).at hx
    refine Qadd (QixSt (w0 := w1) (Mod.refl _ w1) hokC hx fun a ha => ?_)
    refine Qfo (off := 3) (by kernel_rfl) (Qld uS rfl (v := .string l[n].name) (fun w' hw => ha w' hw 3 _ rfl) (Qlen_s uS _ _ (Qmin (Qadd ?_))))
    refine QixSt (w0 := w1) (Mod.refl _ w1) hokC hx fun a2 ha2 => ?_
    refine Qfo (off := 5) (by kernel_rfl) (Qld uExs rfl (v := l[n].es) (fun w' hw => ha2 w' hw 5 _ rfl) ?_)
    refine QC_rt Tryd.func12 rfl rfl (v := .int .i64 (Ex.manyL l[n].exprs)) (fun w' hw => ManyExprs_ok w' _ (hrow w' hw).exprs (by omega)) (fun w' u w'' hw hu => ⟨hu.1, hw.trans hu.2⟩) (Qadd ?_)
    refine QixSt (w0 := w1) (Mod.refl _ w1) hokC hx fun a3 ha3 => ?_
    refine Qfo (off := 6) (by kernel_rfl) (Qld uSts rfl (v := l[n].bs) (fun w' hw => ha3 w' hw 6 _ rfl) ?_)
    refine QC_rt Tryd.func5 rfl rfl (v := .int .i64 (St.manyL l[n].body)) (fun w' hw => ihB w' _ (hrow w' hw).body (by omega)) (fun w' u w'' hw hu => ⟨hu.1, hw.trans hu.2⟩) (Qadd ?_)
    refine QixSt (w0 := w1) (Mod.refl _ w1) hokC hx fun a4 ha4 => ?_
    refine Qfo (off := 7) (by kernel_rfl) (Qld uSts rfl (v := l[n].ls) (fun w' hw => ha4 w' hw 7 _ rfl) ?_)
    refine QC_rt Tryd.func5 rfl rfl (v := .int .i64 (St.manyL l[n].els)) (fun w' hw => ihE w' _ (hrow w' hw).els (by omega)) (fun w' u w'' hw hu => ⟨hu.1, hw.trans hu.2⟩) (Qadd ?_)
    intro w2 hm2
    rw [wrap_i (n := (St.manyL (l.take n) : Int) + 1) (by omega) (by omega)]
    rw [wrap_i (n := (St.manyL (l.take n) : Int) + 1 + (if (30000 : Int) < (l[n].name.size : Int) then 30000 else (l[n].name.size : Int))) (by split <;> omega) (by split <;> omega)]
    rw [wrap_i (n := (St.manyL (l.take n) : Int) + 1 + (if (30000 : Int) < (l[n].name.size : Int) then 30000 else (l[n].name.size : Int)) + (Ex.manyL l[n].exprs : Int)) (by split <;> omega) (by split <;> omega)]
    rw [wrap_i (n := (St.manyL (l.take n) : Int) + 1 + (if (30000 : Int) < (l[n].name.size : Int) then 30000 else (l[n].name.size : Int)) + (Ex.manyL l[n].exprs : Int) + (St.manyL l[n].body : Int)) (by split <;> omega) (by split <;> omega)]
    rw [wrap_i (n := (St.manyL (l.take n) : Int) + 1 + (if (30000 : Int) < (l[n].name.size : Int) then 30000 else (l[n].name.size : Int)) + (Ex.manyL l[n].exprs : Int) + (St.manyL l[n].body : Int) + (St.manyL l[n].els : Int)) (by split <;> omega) (by split <;> omega)]
    rw [bk_n, sq_n, dispatcherref02_Many_R3_eq]
    unfold dispatcherref02_Many_R3_F
    refine BKadd (a := n) (b := 1) ?_ rfl (by omega) (by omega) ?_
    · exact h4
    refine ⟨⟨n + 1, hlt, rfl, ?_, h0.trans hs, hm.trans hm2⟩, ?_⟩
    · show Value.int .i64 _ = _
      rw [List.take_add_one, hx, Option.toList_some, St.manyL_snoc]
      congr 1
      split <;> omega
    · show l.length - (intOf (Value.int .i64 ((n : Int) + 1))).toNat < _
      simp only [intOf]; omega
  · obtain rfl : n = l.length := by omega
    rw [show decide (((l.length : Nat) : Int) < (l.length : Int)) = false by simp]
    refine condF ?_
    rw [sq_x, bk_x, sq_n, dispatcherref02_Many_R1_eq]
    unfold dispatcherref02_Many_R1_F
    rw [List.take_length] at h3
    exact ⟨h3, hm⟩
theorem manySt_all : ∀ e : St, ManySt e.body ∧ ManySt e.els := by
  intro e
  induction e using St.ind with
  | h e ih1 ih2 => exact ⟨manySt_row ih1, manySt_row ih2⟩
theorem Many_ok (l : List St) : ManySt l := manySt_row fun a _ => manySt_all a
end Go.Proofs.YtpkfbaagpjdifaaDoor.Tr
set_option linter.unusedVariables false
set_option linter.unusedSimpArgs false
set_option maxRecDepth 4000
namespace Go.Proofs.YtpkfbaagpjdifaaDoor.Tr
open Go Go.X Go.RowKit Go.Proofs.YtpkfbaagpjdifaaDoor.XF Go.Proofs.YtpkfbaagpjdifaaDoor.XK
theorem bexpr_ok : ∀ (e : Ex) (w : World), e.Ok w → e.sz ≤ 1099511627776 → Rt Tryd.prog 91 #[.agg e.cells.toArray] w fun v w' => v = .int .i64 e.steps ∧ Mod none_ w w' := by
  intro e
  induction e using Ex.ind with
  | h e ih =>
    intro w hok hsz
    obtain ⟨A, c, hs, _⟩ := reads_cap hok.args.1
    have hszL : Ex.szL e.args ≤ 1099511627776 := by rw [Ex.sz_eq] at hsz; omega
    have hlen := Ex.len_sz e.args
    refine bound_expr_calls ?_
    unfold bound_expr_F
    refine box_k (cs := e.cells.toArray) rfl fun w1 hb1 hm1 _ => ?_
    have d0 : FAt Tryd.prog w1 29 0 ⟨w.heap.size, 0, none⟩ 5 (.int .u8 e.op) := FAt.mk' (off := 0) (by kernel_rfl) uU8 rfl (by rw [add_pl, cell_blk hb1]; rfl)
    have r0 : ∀ (ρ' : Sl), ρ' 1 = .pointer (some ⟨w.heap.size, 0, none⟩) → ρ' 3 = .int .i64 (exW e.op) →
        sx fn_ Tryd.prog 27 bound_expr_R0 (retK Tryd.prog [ResultVar.tmp 2] fun v w' => v = .int .i64 e.steps ∧ Mod none_ w w') ρ' w1 := by
      intro ρ' q1 q3
      have hW : exW e.op ≤ 3 := by unfold exW; split <;> omega
      rw [bound_expr_R0_eq]
      unfold bound_expr_R0_F
      simp only [q1, fo25_0, fo25_1, fo25_2, fo25_3, fo25_4, fo25_5, fo25_6, fo25_7, fo29_0, fo29_1, fo29_2, fo29_3, fo34_0, fo34_1, fo43_0, fo43_1, ld2, ld3, ld5, ld9, ld22, ld23, ld32, len9, len22, len23, len32, len91, ldK_some, cellE, blkC_c, add_pl, Nat.zero_add, List.getElem?_toArray, List.getElem?_cons_succ, List.getElem?_cons_zero, Ex.c0, Ex.c1, Ex.c2, Ex.c3, Ex.c4, Ex.c5, St.c0, St.c1, St.c2, St.c3, St.c4, St.c5, St.c6, St.c7, St.c8, St.c9, hb1, hs]
      refine W_loop bound_expr_L1_ok (fun ρ w' => ∃ n : Nat, n ≤ e.args.length ∧ ρ 17 = .int .i64 n ∧ ρ 16 = .int .i64 e.args.length ∧ ρ 15 = .slice A e.args.length c ∧ ρ 3 = .int .i64 (exW e.op + Ex.stepsL (e.args.take n) : Nat) ∧ Mod none_ w w') (fun ρ _ => e.args.length - (intOf (ρ 17)).toNat)
        ⟨0, Nat.zero_le _, rfl, rfl, rfl, q3.trans (by simp [Ex.stepsL]), hm1⟩ ?_
      rintro ρ w2 ⟨n, hn, h17, h16, h15, h3, hm⟩
      rw [bound_expr_L1_eq]
      unfold bound_expr_L1_F
      rw [h17, h16, h15, h3, BK_lss]
      by_cases hlt : n < e.args.length
      · rw [show decide ((n : Int) < (e.args.length : Int)) = true by rw [decide_eq_true_eq]; omega]
        refine condT ?_
        have hx : e.args[n]? = some e.args[n] := List.getElem?_eq_getElem hlt
        have hmem : e.args[n] ∈ e.args := List.getElem_mem hlt
        have hok2 := hok.args.mod hm
        rw [hs] at hok2
        refine ixEx hok2 hx fun y => ?_
        refine lcl_k (cs := e.args[n].cells.toArray) zEx _ iEx rfl (ex_one (hok2.at hx)) fun w3 hb3 hm3 _ => ?_
        refine ldB (cs := e.args[n].cells.toArray) Tryd.underlying29 rfl iEx hb3 ?_
        have hs2 := Ex.szL_at hx
        have t1 := Ex.stepsL_sz (e.args.take n)
        have t2 := Ex.steps_sz e.args[n]
        refine CK_st Tryd.func91 rfl rfl (ih _ hmem w3 ((hok2.at hx).mod hm3) (by omega)) ?_
        rintro _ w4 ⟨rfl, hm4⟩
        rw [BK_add, wrap_i (n := ((exW e.op + Ex.stepsL (e.args.take n) : Nat) : Int) + (e.args[n].steps : Int)) (by omega) (by omega), BK_add, wrap_i (n := (n : Int) + 1) (by omega) (by omega)]
        refine ⟨⟨n + 1, hlt, rfl, h16, h15, ?_, (hm.trans hm3).trans hm4⟩, ?_⟩
        · show Value.int .i64 _ = _
          rw [List.take_add_one, hx, Option.toList_some, Ex.stepsL_snoc]
          congr 1
          omega
        · show e.args.length - (intOf (Value.int .i64 ((n : Int) + 1))).toNat < _
          simp only [intOf]; omega
      · obtain rfl : n = e.args.length := by omega
        rw [show decide (((e.args.length : Nat) : Int) < (e.args.length : Int)) = false by simp]
        refine condF ?_
        rw [List.take_length] at h3
        rw [sq_x, bk_x, sq_n, bound_expr_R2_eq]
        unfold bound_expr_R2_F
        refine ⟨?_, hm⟩
        refine h3.trans ?_
        rw [Ex.steps_eq]
    refine d0.vk' fun x6 => ?_
    rw [BK_eql]
    refine fO' d0 (fun K => BK_eql _ _ _ _ _ _) fun x10 x11 x12 => ?_
    have hw : ((e.op == 19) || (e.op == 20)) = decide (e.op = 19 ∨ e.op = 20) := by
      simp only [beq_dec]
      by_cases q3 : e.op = 19 <;> by_cases q4 : e.op = 20 <;> simp [q3, q4]
    rw [hw]
    refine caseC (fun hp => ?_) (fun hp => ?_)
    · rw [decide_eq_true_eq] at hp
      refine r0 _ rfl ?_
      show Value.int .i64 3 = _
      unfold exW
      rw [if_pos hp]
      rfl
    · rw [decide_eq_false_iff_not] at hp
      refine r0 _ rfl ?_
      show Value.int .i64 1 = _
      unfold exW
      rw [if_neg hp]
      rfl
end Go.Proofs.YtpkfbaagpjdifaaDoor.Tr
set_option linter.unusedVariables false
set_option linter.unusedSimpArgs false
set_option maxRecDepth 4000
namespace Go.Proofs.YtpkfbaagpjdifaaDoor.Tr
open Go Go.X Go.RowKit Go.Proofs.YtpkfbaagpjdifaaDoor.XF Go.Proofs.YtpkfbaagpjdifaaDoor.XK
end Go.Proofs.YtpkfbaagpjdifaaDoor.Tr
set_option linter.unusedVariables false
set_option linter.unusedSimpArgs false
namespace Go.X
open Go
inductive Pd where
  | done
  | take (i : Nat) (r : Pd)
  | only (d : Bool) (i : Nat) (r : Pd)
  | two (d e : Bool) (i j : Nat) (a b : Pd)
def Pd.len : Pd → Nat
  | .done => 0
  | .take _ r => r.len + 1
  | .only _ _ r => r.len + 1
  | .two _ _ _ _ a _ => a.len + 1
def FnL (P : Program) (v : Value) : Prop := ∃ f fn a b, v = .func (.func f) a b ∧ P.funcs[f]? = some fn ∧ fn.body.isNone = false ∧ (fn.name == "runtime.NumGoroutine") = false
def fnOf : Op → Option Operand
  | .call { callee := .value g, .. } => some g
  | _ => none
def stepD (P : Program) (ops : Array Oper) (o : Oper) (N : Sl → World → Prop) (ρ : Sl) (w : World) : Bool → Prop
  | false => sx1 P ops o N ρ w
  | true => (match fnOf o.op with | none => False | some g => FnL P (ev ρ g)) ∧ sx1 P ops o N ρ w
theorem dyn_run {P : Program} {w w' : World} {ρ : Operand → Value} {o : Oper} {g : Operand} {l : Nat} {f : FuncId} {t : Array Value} {x y : Code} (hg : fnOf o.op = some g) (h : FnL P (ρ g)) : (execOp ρ o).run P w ≠ .ok (.round l f t x y) w' := by
  obtain ⟨dst, op, ty, pos, after, guard⟩ := o
  cases op with
  | call c =>
    obtain ⟨callee, args, argTypes⟩ := c
    cases callee with
    | value g' =>
      cases hg
      obtain ⟨k, fn, a, b, hf, hk, h1, h2⟩ := h
      have hb' : fn.body ≠ none := by intro q; rw [q] at h1; cases h1
      have hn' : fn.name ≠ "runtime.NumGoroutine" := by intro q; rw [q] at h2; simp at h2
      have hc : (callFunc k (a ++ args.map ρ ++ b)).run P w = .ok (.enter k (a ++ args.map ρ ++ b)) w := by
        simp [callFunc, program, Sem.run, hk, hb', hn', Sem.run_bind, pure, bind, Sem.bind]
      intro q
      have he : (execOp ρ { dst := dst, op := .call { callee := .value g, args := args, argTypes := argTypes }, type := ty, pos := pos, after := after, guard := guard }).run P w = .ok (.enter k (a ++ args.map ρ ++ b)) w := by
        simp only [execOp, resolve, hf, Deferred.ofValue, Sem.run_bind, Sem.run_pure, Result.andThen_ok, invoke]
        exact hc
      rw [he] at q
      cases q
    | _ => cases hg
  | _ => cases hg
def sxd (P : Program) (S : World → Prop) (ops : Array Oper) (K : Sl → World → Prop) : Pd → Sl → World → Prop
  | .done, ρ, w => K ρ w
  | .take i r, ρ, w => match ops[i]? with | none => False | some o => sxt1 P S ops o (fun ρ => sxd P S ops K r ρ w) ρ
  | .only d i r, ρ, w => match ops[i]? with | none => False | some o => stepD P ops o (fun ρ w => S w ∧ sxd P S ops K r ρ w) ρ w d
  | .two d e i j a b, ρ, w => (match ops[i]? with | none => False | some o => stepD P ops o (fun ρ w => S w ∧ sxd P S ops K a ρ w) ρ w d) ∧ (match ops[j]? with | none => False | some o => stepD P ops o (fun ρ w => S w ∧ sxd P S ops K b ρ w) ρ w e)
def opOkD (P : Program) (n : Nat) (ops : Array Oper) (d : Bool) (i : Nat) : Bool := match ops[i]? with | none => false | some o => oOk n o && (d || noRound P o.op)
def Pd.ok (P : Program) (n : Nat) (ops : Array Oper) : Pd → Array Bool → Bool
  | .done, listed => (Region.ready .any ops listed).isEmpty
  | .take i r, listed => (match ops[i]? with | none => false | some o => oOk n o && (Region.free .any ops listed i && (Region.ready .any ops listed).contains i)) && Pd.ok P n ops r (listed.setIfInBounds i true)
  | .only d i r, listed => opOkD P n ops d i && (Region.ready .any ops listed == [i]) && Pd.ok P n ops r (listed.setIfInBounds i true)
  | .two d e i j a b, listed => opOkD P n ops d i && opOkD P n ops e j && (Region.ready .any ops listed == [i, j]) && (a.len == b.len) && Pd.ok P n ops a (listed.setIfInBounds i true) && Pd.ok P n ops b (listed.setIfInBounds j true)
theorem opOkD_some {P : Program} {n : Nat} {ops : Array Oper} {d : Bool} {i : Nat} (h : opOkD P n ops d i = true) : ∃ o, ops[i]? = some o ∧ oOk n o = true ∧ (d || noRound P o.op) = true := by
  unfold opOkD at h
  cases ho : ops[i]? with
  | none => rw [ho] at h; cases h
  | some o =>
    rw [ho] at h
    simp only [Bool.and_eq_true] at h
    exact ⟨o, rfl, h.1, h.2⟩
theorem stepD_wp {P : Program} {D : List Deferred} {n : Nat} {ops : Array Oper} {Q : Exit → Act → World → Prop} {o : Oper} {N : Sl → World → Prop} {next : Act → World → Prop} {a : Act} {ρ : Sl} {w : World} {dy : Bool}
    (hr : (dy || noRound P o.op) = true) (hd : ∀ k, o.dst = some k → k < n) (hl : Lk ⟨none, D⟩ n a ρ) (h : stepD P ops o N ρ w dy) (hn : ∀ a ρ w, Lk ⟨none, D⟩ n a ρ → N ρ w → next a w) :
    if Region.wanted o (yielded ops a.tmps) then o.wp P a w next Q ∨ (o.asks P a w ∧ LetsOut Q) else next (a.put o.dst undef) w := by
  cases dy with
  | false => exact sx1_wp0 (n := n) (by simpa using hr) hd hl h hn
  | true =>
    obtain ⟨hg, h⟩ := h
    cases hf : fnOf o.op with
    | none => rw [hf] at hg; exact hg.elim
    | some g =>
      rw [hf] at hg
      have he : a.eval = ev ρ := funext (fun x => hl.ev x)
      rw [sx1_eq] at h
      have key : ∀ (hk : OpK P (exo (ev ρ) o.op o.type) w fun v w' => N (upo ρ o.dst v) w'), o.wp P a w next Q := by
        intro hk
        unfold Oper.wp
        rw [he]
        rw [exo_eq] at hk
        unfold OpK at hk
        unfold Oper.upon
        split at hk
        · rename_i v w' hr; rw [hr]; exact hn _ _ _ (hl.put _ _ hd) hk
        · rename_i w' hr; rw [hr]; exact hn _ _ _ (hl.put _ _ hd) hk
        · rename_i f args w' hr
          rw [hr]
          refine hk.mono ?_
          rintro e w'' ⟨v, rfl, hv⟩
          exact hn _ _ _ (hl.put _ _ hd) hv
        · rename_i l f tmps assign body w' hrun
          exact absurd hrun (dyn_run hf hg)
        · exact hk.elim
      cases hgd : o.guard with
      | none =>
        rw [hgd] at h
        have hw : Region.wanted o (yielded ops a.tmps) = true := by unfold Region.wanted; rw [hgd]
        rw [hw]
        simp only [if_true]
        exact .inl (key h)
      | some jb =>
        obtain ⟨j, b⟩ := jb
        rw [hgd] at h
        obtain ⟨h1, h2⟩ := h
        have hy := wanted_gv hl ops hgd
        by_cases htb : wantB (gv ops ρ j) b = true
        · have hw : Region.wanted o (yielded ops a.tmps) = true := hy.trans htb
          rw [hw]
          simp only [if_true]
          exact .inl (key (h1 htb))
        · have htb : wantB (gv ops ρ j) b = false := Bool.eq_false_iff.2 htb
          have hw : Region.wanted o (yielded ops a.tmps) = false := hy.trans htb
          rw [hw]
          simp only [Bool.false_eq_true, if_false]
          exact hn _ _ _ (hl.put _ _ hd) (h2 htb)
theorem sxd_held {P : Program} {n : Nat} {D : List Deferred} {S : World → Prop} {ops : Array Oper} {K : Sl → World → Prop} {Q : Exit → Act → World → Prop} (hQ : ∀ a ρ w, Lk ⟨none, D⟩ n a ρ → K ρ w → Q .normal a w)
    (hp : ∀ c a w, ¬ Q (.panic c) a w) (hs : Region.noSelect ops = true) : ∀ (l : Pd) (listed : Array Bool) a ρ w,
    l.ok P n ops listed = true → Lk ⟨none, D⟩ n a ρ → S w → sxd P S ops K l ρ w → wpAnyH P .any ops Q S l.len listed a w
  | .done, listed, a, ρ, w, hpl, hl, hS, h => ⟨List.isEmpty_iff.1 hpl, hQ a ρ w hl h⟩
  | .take i r, listed, a, ρ, w, hpl, hl, hS, h => by
    unfold Pd.ok at hpl
    unfold sxd at h
    cases ho : ops[i]? with
    | none => rw [ho] at h; exact h.elim
    | some o =>
      rw [ho] at h hpl
      dsimp only at h hpl
      simp only [Bool.and_eq_true] at hpl
      obtain ⟨⟨h1, h2, h3⟩, h4⟩ := hpl
      obtain ⟨v, hy, ρ', hl', hN⟩ := sxt1_yields (oOk_dst h1) hl h
      exact wpAnyH_take ho hs h2 h3 (fun c a w q => absurd q (hp _ _ _)) hy hS (sxd_held hQ hp hs r _ _ ρ' w h4 hl' hS hN)
  | .only d i r, listed, a, ρ, w, hpl, hl, hS, h => by
    unfold Pd.ok at hpl
    unfold sxd at h
    simp only [Bool.and_eq_true, beq_iff_eq] at hpl
    obtain ⟨⟨h1, h3⟩, h4⟩ := hpl
    obtain ⟨o, ho, g1, g2⟩ := opOkD_some h1
    rw [ho] at h
    dsimp only at h
    refine wpAnyH_all h3 (by simp) fun j hj => ?_
    obtain rfl : j = i := by simpa using hj
    unfold wpOp
    rw [ho]
    exact stepD_wp (n := n) g2 (oOk_dst g1) hl h (fun a ρ w hl hq => ⟨hq.1, sxd_held hQ hp hs r _ a ρ w h4 hl hq.1 hq.2⟩)
  | .two d e i j a b, listed, ac, ρ, w, hpl, hl, hS, h => by
    unfold Pd.ok at hpl
    unfold sxd at h
    simp only [Bool.and_eq_true, beq_iff_eq] at hpl
    obtain ⟨⟨⟨⟨⟨h1, h2⟩, h3⟩, h4⟩, h5⟩, h6⟩ := hpl
    obtain ⟨o, ho, g1, g1'⟩ := opOkD_some h1
    obtain ⟨o', ho', g2, g2'⟩ := opOkD_some h2
    rw [ho, ho'] at h
    dsimp only at h
    refine wpAnyH_all h3 (by simp) fun k hk => ?_
    rcases List.mem_cons.1 hk with rfl | hk
    · unfold wpOp
      rw [ho]
      exact stepD_wp (n := n) g1' (oOk_dst g1) hl h.1 (fun a' ρ w hl hq => ⟨hq.1, sxd_held hQ hp hs a _ a' ρ w h5 hl hq.1 hq.2⟩)
    · obtain rfl : k = j := by simpa using hk
      unfold wpOp
      rw [ho']
      have h4' : a.len = b.len := by simpa using h4
      rw [h4']
      exact stepD_wp (n := n) g2' (oOk_dst g2) hl h.2 (fun a' ρ w hl hq => ⟨hq.1, sxd_held hQ hp hs b _ a' ρ w h6 hl hq.1 hq.2⟩)
theorem W_pland {P : Program} {n : Nat} {D : List Deferred} {id : Nat} {ops : Array Oper} {K : Exit → Sl → World → Prop} {ρ : Sl} {w : World} (S : World → Prop) (plan : Pd) (hlen : plan.len = ops.size)
    (hs : Region.noSelect ops = true) (hpl : plan.ok P n ops (Array.replicate ops.size false) = true) (hm : P.follows .mixedOrders = true) (hS : S { w with drawn := w.drawn + 1 })
    (h : sxd P S ops (K .normal) plan ρ { w with drawn := w.drawn + 1 }) : W ⟨none, D⟩ P n (.region id ops true) K ρ w := by
  intro a hl
  refine wpIn_wide.2 (Code.wp_mono ?_ (wp_region_held (S := S) (Q := fun e a w => e = .normal ∧ ∃ ρ, Lk ⟨none, D⟩ n a ρ ∧ K .normal ρ w) hm ?_))
  · rintro e a w ⟨rfl, ρ, hl, hk⟩
    exact ⟨ρ, hl, hk⟩
  · have := sxd_held (Q := fun e a w => e = .normal ∧ ∃ ρ, Lk ⟨none, D⟩ n a ρ ∧ K .normal ρ w) (fun a ρ w hl hk => ⟨rfl, ρ, hl, hk⟩) (fun c a w q => by cases q.1) hs plan _ a ρ _ hpl hl hS h
    rw [hlen] at this
    exact this
end Go.X
set_option linter.unusedVariables false
set_option maxRecDepth 100000
namespace Go.Proofs.YtpkfbaagpjdifaaDoor.XH
open Go Go.X
noncomputable def bound_Of_b : Code := (Tryd.f21.body).getD .skip
noncomputable def bound_Of_F (a0 a1 : Value) (w : World) (R : Value → World → Prop) : Prop :=
  VK Tryd.prog (Instr.box 34 a0) w fun x2 w => VK Tryd.prog (Instr.alloc 58 true (.tuple #[])) w fun x4 w => VK Tryd.prog (Instr.loadAt 34 x2) w fun x8 w => CK Tryd.prog (Value.func (Fn.func 45) #[] #[]) [x8] w fun x9 w => VK Tryd.prog (Instr.field 54 x9 0) w fun x10 w => BK Tryd.prog .neq 38 (.tmp 10) (.const (Value.int .i64 0)) x10 (Value.int .i64 0) w fun x11 w => MG Tryd.prog x11 false a1 w fun x13 w => BG Tryd.prog x11 false .lss 3 (.tmp 13) (.const (Value.int .i64 1)) x13 (Value.int .i64 1) w fun x14 w => PK Tryd.prog x11 (Value.bool true) x14 w fun x15 w => MG Tryd.prog x15 false a1 w fun x17 w => BG Tryd.prog x15 false .gtr 3 (.tmp 17) (.const (Value.int .i64 64)) x17 (Value.int .i64 64) w fun x18 w => PK Tryd.prog x15 (Value.bool true) x18 w fun x19 w => CondK x19 (VK Tryd.prog (Instr.build 58 [].toArray) w fun x20 w => UK Tryd.prog (Instr.storeAt 58 x4 x20) w fun _ w => ∃ x4_1, (do loadVar 58 (← asAddr x4) : Sem Value).run Tryd.prog w = .ok x4_1 w ∧ R (Value.tuple #[x4_1, (Value.int .i64 2)]) w) (VK Tryd.prog (Instr.loadAt 34 x2) w fun x22 w => CK Tryd.prog (Value.func (Fn.func 46) #[] #[]) [x22] w fun x23 w => VK Tryd.prog (Op.unary UnOp.not x23) w fun x24 w => CondK x24 (VK Tryd.prog (Instr.build 58 [].toArray) w fun x25 w => UK Tryd.prog (Instr.storeAt 58 x4 x25) w fun _ w => ∃ x4_2, (do loadVar 58 (← asAddr x4) : Sem Value).run Tryd.prog w = .ok x4_2 w ∧ R (Value.tuple #[x4_2, (Value.int .i64 90)]) w) (VK Tryd.prog (Instr.fieldAt 34 x2 1) w fun x27 w => VK Tryd.prog (Instr.loadAt 23 x27) w fun x28 w => CK Tryd.prog (Value.func (Fn.func 47) #[] #[]) [a1, x28] w fun x29 w => VK Tryd.prog (Instr.build 58 [(0, (Value.int .i64 1))].toArray) w fun x30 w => CK Tryd.prog (Value.func (Fn.func 48) #[] #[]) [x29, x30] w fun x31 w => VK Tryd.prog (Instr.alloc 58 true (.tuple #[])) w fun x6 w => UK Tryd.prog (Instr.storeAt 58 x6 x31) w fun _ w => VK Tryd.prog (Instr.fieldAt 58 x6 0) w fun x32 w => VK Tryd.prog (Instr.loadAt 3 x32) w fun x33 w => BK Tryd.prog .gtr 3 (.tmp 33) (.const (Value.int .i64 1048576)) x33 (Value.int .i64 1048576) w fun x34 w => CondK x34 (VK Tryd.prog (Instr.build 58 [].toArray) w fun x35 w => UK Tryd.prog (Instr.storeAt 58 x4 x35) w fun _ w => ∃ x4_3, (do loadVar 58 (← asAddr x4) : Sem Value).run Tryd.prog w = .ok x4_3 w ∧ R (Value.tuple #[x4_3, (Value.int .i64 90)]) w) (VK Tryd.prog (Instr.loadAt 58 x6) w fun x36 w => UK Tryd.prog (Instr.storeAt 58 x4 x36) w fun _ w => ∃ x4_4, (do loadVar 58 (← asAddr x4) : Sem Value).run Tryd.prog w = .ok x4_4 w ∧ R (Value.tuple #[x4_4, (Value.int .i64 0)]) w)))
theorem bound_Of_eq (a0 a1 : Value) (w : World) (R : Value → World → Prop) : sx fn_ Tryd.prog 37 bound_Of_b (retK Tryd.prog Tryd.f21.results.toList R) (rho0 [a0, a1]) w = bound_Of_F a0 a1 w R := by kernel_rfl
theorem bound_Of_calls {a0 a1 : Value} {w : World} {R : Value → World → Prop} (h : bound_Of_F a0 a1 w R) : Calls Tryd.prog 21 #[a0, a1] w fun e w' => ∃ v, e = .returned v ∧ R v w' :=
  Go.X.calls_of_sx (n := 37) (c := bound_Of_b) Tryd.func21 (by kernel_rfl) (by kernel_rfl) (Nat.le_of_ble_eq_true rfl) (by kernel_rfl) (Eq.mpr (bound_Of_eq a0 a1 w R) h)
noncomputable def bound_Counted_b : Code := (Tryd.f46.body).getD .skip
noncomputable def bound_Counted_F (a0 : Value) (w : World) (R : Value → World → Prop) : Prop :=
  VK Tryd.prog (Instr.box 34 a0) w fun x1 w => VK Tryd.prog (Instr.fieldAt 34 x1 1) w fun x3 w => VK Tryd.prog (Instr.loadAt 23 x3) w fun x4 w => CK Tryd.prog (Value.func (Fn.func 74) #[] #[]) [x4] w fun x5 w => VK Tryd.prog (Op.unary UnOp.not x5) w fun x6 w => R x6 w
theorem bound_Counted_eq (a0 : Value) (w : World) (R : Value → World → Prop) : sx fn_ Tryd.prog 7 bound_Counted_b (retK Tryd.prog Tryd.f46.results.toList R) (rho0 [a0]) w = bound_Counted_F a0 w R := by kernel_rfl
theorem bound_Counted_calls {a0 : Value} {w : World} {R : Value → World → Prop} (h : bound_Counted_F a0 w R) : Calls Tryd.prog 46 #[a0] w fun e w' => ∃ v, e = .returned v ∧ R v w' :=
  Go.X.calls_of_sx (n := 7) (c := bound_Counted_b) Tryd.func46 (by kernel_rfl) (by kernel_rfl) (Nat.le_of_ble_eq_true rfl) (by kernel_rfl) (Eq.mpr (bound_Counted_eq a0 w R) h)
noncomputable def bound_size_all_b : Code := (Tryd.f47.body).getD .skip
noncomputable def bound_size_all_L0 : Code := cAt [1, 1, 1, 0, 1, 0, 0] bound_size_all_b
noncomputable def bound_size_all_R1 : Code := cAt [1, 1, 1, 1] bound_size_all_b
noncomputable def bound_size_all_R2 : Code := cAt [1, 1, 1, 0, 1, 0, 0, 1, 1, 0, 0, 1] bound_size_all_b
noncomputable def bound_size_all_R3 : Code := cAt [1, 1, 1, 0, 1, 0, 0, 1, 1, 1] bound_size_all_b
noncomputable def bound_size_all_L0_F (z : At) (K : Exit → Sl → World → Prop) (ρ : Sl) (w : World) : Prop :=
  BK Tryd.prog .lss 3 (.tmp 13) (.tmp 12) (ρ 13) (ρ 12) w fun x14 w => CondK x14 (VK Tryd.prog (Instr.indexAt 23 (ρ 11) (ρ 13)) w fun x15 w => VK Tryd.prog (Instr.loadAt 25 x15) w fun x16 w => VK Tryd.prog (Instr.alloc 25 true (.tuple #[])) w fun x8 w => UK Tryd.prog (Instr.storeAt 25 x8 x16) w fun _ w => W z Tryd.prog 25 bound_size_all_R2 (blkK 1 (seqK (sx z Tryd.prog 25 bound_size_all_R3 K) K)) (up (up (up (up ρ 14 x14) 15 x15) 16 x16) 8 x8) w) (K (.exit 0) (up ρ 14 x14) w)
theorem bound_size_all_L0_eq (z : At) (K : Exit → Sl → World → Prop) (ρ : Sl) (w : World) : sx z Tryd.prog 25 bound_size_all_L0 K ρ w = bound_size_all_L0_F z K ρ w := by kernel_rfl
theorem bound_size_all_L0_ok : dstOk 25 bound_size_all_L0 = true := by kernel_rfl
noncomputable def bound_size_all_R1_F (z : At) (K : Exit → Sl → World → Prop) (ρ : Sl) (w : World) : Prop :=
  VK Tryd.prog (Instr.loadAt 58 (ρ 5)) w fun x24 w => UK Tryd.prog (Instr.storeAt 58 (ρ 4) x24) w fun _ w => K .ret (up ρ 24 x24) w
theorem bound_size_all_R1_eq (z : At) (K : Exit → Sl → World → Prop) (ρ : Sl) (w : World) : sx z Tryd.prog 25 bound_size_all_R1 K ρ w = bound_size_all_R1_F z K ρ w := by kernel_rfl
noncomputable def bound_size_all_R2_ops : Array Oper := opsOf bound_size_all_R2
def bound_size_all_R2_H (S : World → Prop) (K : Exit → Sl → World → Prop) (ρ : Sl) (w : World) : Prop :=
  HK Tryd.prog S (do pure (Next.value (← Instr.loadAt 25 (ρ 8)))) fun x19_1 => (VK Tryd.prog (Instr.loadAt 58 (ρ 5)) w fun x17_1 w => S w ∧ (FnL Tryd.prog (ρ 6) ∧ (CK Tryd.prog (ρ 6) [x19_1] w fun x20_1 w => S w ∧ (CK Tryd.prog (Value.func (Fn.func 48) #[] #[]) [x17_1, x20_1] w fun x21_1 w => S w ∧ (CK Tryd.prog (Value.func (Fn.func 76) #[] #[]) [x21_1] w fun x22_1 w => S w ∧ (UK Tryd.prog (Instr.storeAt 58 (ρ 5) x22_1) w fun _ w => S w ∧ (K Exit.normal (up (up (up (up (up (up ρ 18 (ρ 6)) 19 x19_1) 17 x17_1) 20 x20_1) 21 x21_1) 22 x22_1) w))))))) ∧ (FnL Tryd.prog (ρ 6) ∧ (CK Tryd.prog (ρ 6) [x19_1] w fun x20_2 w => S w ∧ (VK Tryd.prog (Instr.loadAt 58 (ρ 5)) w fun x17_2 w => S w ∧ (CK Tryd.prog (Value.func (Fn.func 48) #[] #[]) [x17_2, x20_2] w fun x21_2 w => S w ∧ (CK Tryd.prog (Value.func (Fn.func 76) #[] #[]) [x21_2] w fun x22_2 w => S w ∧ (UK Tryd.prog (Instr.storeAt 58 (ρ 5) x22_2) w fun _ w => S w ∧ (K Exit.normal (up (up (up (up (up (up ρ 18 (ρ 6)) 19 x19_1) 20 x20_2) 17 x17_2) 21 x21_2) 22 x22_2) w)))))))
theorem bound_size_all_R2_held {D : List Deferred} (S : World → Prop) {K : Exit → Sl → World → Prop} {ρ : Sl} {w : World} (hS : S { w with drawn := w.drawn + 1 }) (h : bound_size_all_R2_H S K ρ { w with drawn := w.drawn + 1 }) : W ⟨none, D⟩ Tryd.prog 25 bound_size_all_R2 K ρ w := by
  have e : bound_size_all_R2 = .region (idOf bound_size_all_R2) bound_size_all_R2_ops true := by kernel_rfl
  have q : sxd Tryd.prog S bound_size_all_R2_ops (K .normal) (Pd.take 1 (Pd.take 2 (Pd.two false true 0 3 (Pd.only true 3 (Pd.only false 4 (Pd.only false 5 (Pd.only false 6 Pd.done)))) (Pd.only false 0 (Pd.only false 4 (Pd.only false 5 (Pd.only false 6 Pd.done))))))) ρ { w with drawn := w.drawn + 1 } = bound_size_all_R2_H S K ρ { w with drawn := w.drawn + 1 } := by kernel_rfl
  rw [e]
  exact W_pland S (Pd.take 1 (Pd.take 2 (Pd.two false true 0 3 (Pd.only true 3 (Pd.only false 4 (Pd.only false 5 (Pd.only false 6 Pd.done)))) (Pd.only false 0 (Pd.only false 4 (Pd.only false 5 (Pd.only false 6 Pd.done))))))) (by kernel_rfl) (by kernel_rfl) (by kernel_rfl) (by kernel_rfl) hS (Eq.mpr q h)
noncomputable def bound_size_all_R3_F (z : At) (K : Exit → Sl → World → Prop) (ρ : Sl) (w : World) : Prop :=
  BK Tryd.prog .add 3 (.tmp 13) (.const (Value.int .i64 1)) (ρ 13) (Value.int .i64 1) w fun x23 w => K .normal (up (up ρ 23 x23) 13 x23) w
theorem bound_size_all_R3_eq (z : At) (K : Exit → Sl → World → Prop) (ρ : Sl) (w : World) : sx z Tryd.prog 25 bound_size_all_R3 K ρ w = bound_size_all_R3_F z K ρ w := by kernel_rfl
noncomputable def bound_size_all_F (a0 a1 : Value) (w : World) (R : Value → World → Prop) : Prop :=
  VK Tryd.prog (Instr.alloc 58 true (.tuple #[])) w fun x4 w => VK Tryd.prog (Instr.alloc 58 true (.tuple #[])) w fun x5 w => VK Tryd.prog (Instr.makeFunc (Fn.func 75) [a0].toArray [].toArray) w fun x10 w => IK Tryd.prog .len #[23] 3 [false] [a1] w fun x12 w => W fn_ Tryd.prog 25 (Code.loop bound_size_all_L0) (blkK 0 (seqK (sx fn_ Tryd.prog 25 bound_size_all_R1 (retK Tryd.prog [ResultVar.cell 4 58] R)) (retK Tryd.prog [ResultVar.cell 4 58] R))) (up (up (up (up (up (up (up (up (rho0 [a0, a1]) 4 x4) 5 x5) 9 a0) 10 x10) 6 x10) 11 a1) 12 x12) 13 (Value.int .i64 0)) w
theorem bound_size_all_eq (a0 a1 : Value) (w : World) (R : Value → World → Prop) : sx fn_ Tryd.prog 25 bound_size_all_b (retK Tryd.prog Tryd.f47.results.toList R) (rho0 [a0, a1]) w = bound_size_all_F a0 a1 w R := by kernel_rfl
theorem bound_size_all_calls {a0 a1 : Value} {w : World} {R : Value → World → Prop} (h : bound_size_all_F a0 a1 w R) : Calls Tryd.prog 47 #[a0, a1] w fun e w' => ∃ v, e = .returned v ∧ R v w' :=
  Go.X.calls_of_sx (n := 25) (c := bound_size_all_b) Tryd.func47 (by kernel_rfl) (by kernel_rfl) (Nat.le_of_ble_eq_true rfl) (by kernel_rfl) (Eq.mpr (bound_size_all_eq a0 a1 w R) h)
noncomputable def bound_Bound_and_b : Code := (Tryd.f48.body).getD .skip
noncomputable def bound_Bound_and_F (a0 a1 : Value) (w : World) (R : Value → World → Prop) : Prop :=
  VK Tryd.prog (Instr.box 58 a0) w fun x2 w => VK Tryd.prog (Instr.box 58 a1) w fun x3 w => VK Tryd.prog (Instr.alloc 58 true (.tuple #[])) w fun x4 w => VK Tryd.prog (Instr.fieldAt 58 x2 0) w fun x5 w => VK Tryd.prog (Instr.loadAt 3 x5) w fun x6 w => VK Tryd.prog (Instr.fieldAt 58 x3 0) w fun x7 w => VK Tryd.prog (Instr.loadAt 3 x7) w fun x8 w => BK Tryd.prog .add 3 (.tmp 6) (.tmp 8) x6 x8 w fun x9 w => VK Tryd.prog (Instr.fieldAt 58 x2 1) w fun x10 w => VK Tryd.prog (Instr.loadAt 3 x10) w fun x11 w => VK Tryd.prog (Instr.fieldAt 58 x3 1) w fun x12 w => VK Tryd.prog (Instr.loadAt 3 x12) w fun x13 w => BK Tryd.prog .add 3 (.tmp 11) (.tmp 13) x11 x13 w fun x14 w => VK Tryd.prog (Instr.fieldAt 58 x2 2) w fun x15 w => VK Tryd.prog (Instr.loadAt 3 x15) w fun x16 w => VK Tryd.prog (Instr.fieldAt 58 x3 2) w fun x17 w => VK Tryd.prog (Instr.loadAt 3 x17) w fun x18 w => BK Tryd.prog .add 3 (.tmp 16) (.tmp 18) x16 x18 w fun x19 w => VK Tryd.prog (Instr.build 58 [(0, x9), (1, x14), (2, x19)].toArray) w fun x20 w => UK Tryd.prog (Instr.storeAt 58 x4 x20) w fun _ w => ∃ x4_1, (do loadVar 58 (← asAddr x4) : Sem Value).run Tryd.prog w = .ok x4_1 w ∧ R x4_1 w
theorem bound_Bound_and_eq (a0 a1 : Value) (w : World) (R : Value → World → Prop) : sx fn_ Tryd.prog 21 bound_Bound_and_b (retK Tryd.prog Tryd.f48.results.toList R) (rho0 [a0, a1]) w = bound_Bound_and_F a0 a1 w R := by kernel_rfl
theorem bound_Bound_and_calls {a0 a1 : Value} {w : World} {R : Value → World → Prop} (h : bound_Bound_and_F a0 a1 w R) : Calls Tryd.prog 48 #[a0, a1] w fun e w' => ∃ v, e = .returned v ∧ R v w' :=
  Go.X.calls_of_sx (n := 21) (c := bound_Bound_and_b) Tryd.func48 (by kernel_rfl) (by kernel_rfl) (Nat.le_of_ble_eq_true rfl) (by kernel_rfl) (Eq.mpr (bound_Bound_and_eq a0 a1 w R) h)
noncomputable def bound_loops_b : Code := (Tryd.f74.body).getD .skip
noncomputable def bound_loops_F (a0 : Value) (w : World) (R : Value → World → Prop) : Prop :=
  CK Tryd.prog (Value.func (Fn.func 32) #[] #[]) [a0, (Value.func (Fn.func 90) #[] #[])] w fun x4 w => R x4 w
theorem bound_loops_eq (a0 : Value) (w : World) (R : Value → World → Prop) : sx fn_ Tryd.prog 5 bound_loops_b (retK Tryd.prog Tryd.f74.results.toList R) (rho0 [a0]) w = bound_loops_F a0 w R := by kernel_rfl
theorem bound_loops_calls {a0 : Value} {w : World} {R : Value → World → Prop} (h : bound_loops_F a0 w R) : Calls Tryd.prog 74 #[a0] w fun e w' => ∃ v, e = .returned v ∧ R v w' :=
  Go.X.calls_of_sx (n := 5) (c := bound_loops_b) Tryd.func74 (by kernel_rfl) (by kernel_rfl) (Nat.le_of_ble_eq_true rfl) (by kernel_rfl) (Eq.mpr (bound_loops_eq a0 w R) h)
noncomputable def bound_size_one_b : Code := (Tryd.f75.body).getD .skip
noncomputable def bound_size_one_L0 : Code := cAt [1, 1, 0, 1, 0, 0] bound_size_one_b
noncomputable def bound_size_one_R1 : Code := cAt [1, 1, 1] bound_size_one_b
noncomputable def bound_size_one_R2 : Code := cAt [1, 1, 0, 1, 0, 0, 1, 1, 0, 0, 1] bound_size_one_b
noncomputable def bound_size_one_R3 : Code := cAt [1, 1, 0, 1, 0, 0, 1, 1, 1] bound_size_one_b
noncomputable def bound_size_one_R4 : Code := cAt [1, 1, 1, 1] bound_size_one_b
noncomputable def bound_size_one_R5 : Code := cAt [1, 1, 1, 0, 1, 0, 1, 0, 1, 1] bound_size_one_b
noncomputable def bound_size_one_R6 : Code := cAt [1, 1, 1, 0, 1, 0, 1, 1, 1, 0, 1, 1] bound_size_one_b
noncomputable def bound_size_one_L0_F (z : At) (K : Exit → Sl → World → Prop) (ρ : Sl) (w : World) : Prop :=
  BK Tryd.prog .lss 3 (.tmp 14) (.tmp 13) (ρ 14) (ρ 13) w fun x15 w => CondK x15 (VK Tryd.prog (Instr.indexAt 22 (ρ 12) (ρ 14)) w fun x16 w => VK Tryd.prog (Instr.loadAt 29 x16) w fun x17 w => VK Tryd.prog (Instr.alloc 29 true (.tuple #[])) w fun x7 w => UK Tryd.prog (Instr.storeAt 29 x7 x17) w fun _ w => W z Tryd.prog 74 bound_size_one_R2 (blkK 1 (seqK (sx z Tryd.prog 74 bound_size_one_R3 K) K)) (up (up (up (up ρ 15 x15) 16 x16) 17 x17) 7 x7) w) (K (.exit 0) (up ρ 15 x15) w)
theorem bound_size_one_L0_eq (z : At) (K : Exit → Sl → World → Prop) (ρ : Sl) (w : World) : sx z Tryd.prog 74 bound_size_one_L0 K ρ w = bound_size_one_L0_F z K ρ w := by kernel_rfl
theorem bound_size_one_L0_ok : dstOk 74 bound_size_one_L0 = true := by kernel_rfl
noncomputable def bound_size_one_R1_F (z : At) (K : Exit → Sl → World → Prop) (ρ : Sl) (w : World) : Prop :=
  VK Tryd.prog (Instr.fieldAt 25 (ρ 3) 0) w fun x25 w => VK Tryd.prog (Instr.loadAt 5 x25) w fun x26 w => BK Tryd.prog .eql 5 (.tmp 26) (.const (Value.int .u8 3)) x26 (Value.int .u8 3) w fun x28 w => CondK x28 (VK Tryd.prog (Instr.fieldAt 25 (ρ 3) 6) w fun x30 w => VK Tryd.prog (Instr.loadAt 23 x30) w fun x31 w => CK Tryd.prog (Value.func (Fn.func 47) #[] #[]) [(ρ 0), x31] w fun x32 w => VK Tryd.prog (Instr.alloc 58 true (.tuple #[])) w fun x8 w => UK Tryd.prog (Instr.storeAt 58 x8 x32) w fun _ w => VK Tryd.prog (Instr.fieldAt 25 (ρ 3) 7) w fun x33 w => VK Tryd.prog (Instr.loadAt 23 x33) w fun x34 w => IK Tryd.prog .len #[23] 3 [false] [x34] w fun x35 w => BK Tryd.prog .gtr 3 (.tmp 35) (.const (Value.int .i64 0)) x35 (Value.int .i64 0) w fun x36 w => CondK x36 (VK Tryd.prog (Instr.fieldAt 58 x8 0) w fun x37 w => VK Tryd.prog (Instr.loadAt 3 x37) w fun x38 w => BK Tryd.prog .add 3 (.tmp 38) (.const (Value.int .i64 1)) x38 (Value.int .i64 1) w fun x39 w => VK Tryd.prog (Instr.fieldAt 58 x8 0) w fun x40 w => UK Tryd.prog (Instr.storeAt 3 x40 x39) w fun _ w => sx z Tryd.prog 74 bound_size_one_R5 (blkK 2 (seqK (sx z Tryd.prog 74 bound_size_one_R4 K) K)) (up (up (up (up (up (up (up (up (up (up (up (up (up (up (up (up (up ρ 25 x25) 26 x26) 28 x28) 27 x28) 29 (ρ 0)) 30 x30) 31 x31) 32 x32) 8 x8) 33 x33) 34 x34) 35 x35) 36 x36) 37 x37) 38 x38) 39 x39) 40 x40) w) (sx z Tryd.prog 74 bound_size_one_R5 (blkK 2 (seqK (sx z Tryd.prog 74 bound_size_one_R4 K) K)) (up (up (up (up (up (up (up (up (up (up (up (up (up ρ 25 x25) 26 x26) 28 x28) 27 x28) 29 (ρ 0)) 30 x30) 31 x31) 32 x32) 8 x8) 33 x33) 34 x34) 35 x35) 36 x36) w)) (BK Tryd.prog .eql 5 (.tmp 26) (.const (Value.int .u8 5)) x26 (Value.int .u8 5) w fun x50 w => CondK x50 (VK Tryd.prog (Instr.fieldAt 25 (ρ 3) 4) w fun x51 w => VK Tryd.prog (Instr.loadAt 3 x51) w fun x52 w => BK Tryd.prog .eql 3 (.tmp 53) (.const (Value.int .i64 0)) x52 (Value.int .i64 0) w fun x54 w => CondK x54 (sx z Tryd.prog 74 bound_size_one_R6 (blkK 2 (seqK (sx z Tryd.prog 74 bound_size_one_R4 K) K)) (up (up (up (up (up (up (up (up (up (up (up (up (up ρ 25 x25) 26 x26) 28 x28) 27 x28) 50 x50) 49 x50) 51 x51) 52 x52) 9 x52) 53 x52) 54 x54) 55 (ρ 0)) 9 (ρ 0)) w) (sx z Tryd.prog 74 bound_size_one_R6 (blkK 2 (seqK (sx z Tryd.prog 74 bound_size_one_R4 K) K)) (up (up (up (up (up (up (up (up (up (up (up ρ 25 x25) 26 x26) 28 x28) 27 x28) 50 x50) 49 x50) 51 x51) 52 x52) 9 x52) 53 x52) 54 x54) w)) (BK Tryd.prog .eql 5 (.tmp 26) (.const (Value.int .u8 8)) x26 (Value.int .u8 8) w fun x67 w => CondK x67 (VK Tryd.prog (Instr.fieldAt 58 (ρ 5) 1) w fun x68 w => UK Tryd.prog (Instr.storeAt 3 x68 (Value.int .i64 1)) w fun _ w => VK Tryd.prog (Instr.loadAt 25 (ρ 3)) w fun x69 w => CK Tryd.prog (Value.func (Fn.func 51) #[] #[]) [x69] w fun x70 w => CondK x70 (VK Tryd.prog (Instr.fieldAt 58 (ρ 5) 2) w fun x71 w => UK Tryd.prog (Instr.storeAt 3 x71 (Value.int .i64 1)) w fun _ w => sx z Tryd.prog 74 bound_size_one_R4 K (up (up (up (up (up (up (up (up (up (up (up (up ρ 25 x25) 26 x26) 28 x28) 27 x28) 50 x50) 49 x50) 67 x67) 66 x67) 68 x68) 69 x69) 70 x70) 71 x71) w) (sx z Tryd.prog 74 bound_size_one_R4 K (up (up (up (up (up (up (up (up (up (up (up ρ 25 x25) 26 x26) 28 x28) 27 x28) 50 x50) 49 x50) 67 x67) 66 x67) 68 x68) 69 x69) 70 x70) w)) (sx z Tryd.prog 74 bound_size_one_R4 K (up (up (up (up (up (up (up (up ρ 25 x25) 26 x26) 28 x28) 27 x28) 50 x50) 49 x50) 67 x67) 66 x67) w)))
theorem bound_size_one_R1_eq (z : At) (K : Exit → Sl → World → Prop) (ρ : Sl) (w : World) : sx z Tryd.prog 74 bound_size_one_R1 K ρ w = bound_size_one_R1_F z K ρ w := by kernel_rfl
noncomputable def bound_size_one_R2_ops : Array Oper := opsOf bound_size_one_R2
def bound_size_one_R2_H (S : World → Prop) (K : Exit → Sl → World → Prop) (ρ : Sl) (w : World) : Prop :=
  HK Tryd.prog S (do pure (Next.value (← Instr.fieldAt 58 (ρ 5) 0))) fun x18_1 => HK Tryd.prog S (do pure (Next.value (← Instr.loadAt 29 (ρ 7)))) fun x20_1 => (VK Tryd.prog (Instr.loadAt 3 x18_1) w fun x19_1 w => S w ∧ (CK Tryd.prog (Value.func (Fn.func 91) #[] #[]) [x20_1] w fun x21_1 w => S w ∧ (HK Tryd.prog S (do pure (Next.value (← (do eqGuard BinOp.add 3 (Operand.tmp 19) (Operand.tmp 21) x19_1 x21_1; binOp BinOp.add 3 x19_1 x21_1)))) fun x22_1 => HK Tryd.prog S (do pure (Next.value (← Instr.fieldAt 58 (ρ 5) 0))) fun x23_1 => UK Tryd.prog (Instr.storeAt 3 x23_1 x22_1) w fun _ w => S w ∧ (K Exit.normal (up (up (up (up (up (up ρ 18 x18_1) 20 x20_1) 19 x19_1) 21 x21_1) 22 x22_1) 23 x23_1) w)))) ∧ (CK Tryd.prog (Value.func (Fn.func 91) #[] #[]) [x20_1] w fun x21_2 w => S w ∧ (VK Tryd.prog (Instr.loadAt 3 x18_1) w fun x19_2 w => S w ∧ (HK Tryd.prog S (do pure (Next.value (← (do eqGuard BinOp.add 3 (Operand.tmp 19) (Operand.tmp 21) x19_2 x21_2; binOp BinOp.add 3 x19_2 x21_2)))) fun x22_2 => HK Tryd.prog S (do pure (Next.value (← Instr.fieldAt 58 (ρ 5) 0))) fun x23_2 => UK Tryd.prog (Instr.storeAt 3 x23_2 x22_2) w fun _ w => S w ∧ (K Exit.normal (up (up (up (up (up (up ρ 18 x18_1) 20 x20_1) 21 x21_2) 19 x19_2) 22 x22_2) 23 x23_2) w))))
theorem bound_size_one_R2_held {D : List Deferred} (S : World → Prop) {K : Exit → Sl → World → Prop} {ρ : Sl} {w : World} (hS : S { w with drawn := w.drawn + 1 }) (h : bound_size_one_R2_H S K ρ { w with drawn := w.drawn + 1 }) : W ⟨none, D⟩ Tryd.prog 74 bound_size_one_R2 K ρ w := by
  have e : bound_size_one_R2 = .region (idOf bound_size_one_R2) bound_size_one_R2_ops true := by kernel_rfl
  have q : sxd Tryd.prog S bound_size_one_R2_ops (K .normal) (Pd.take 0 (Pd.take 2 (Pd.two false false 1 3 (Pd.only false 3 (Pd.take 4 (Pd.take 5 (Pd.only false 6 Pd.done)))) (Pd.only false 1 (Pd.take 4 (Pd.take 5 (Pd.only false 6 Pd.done))))))) ρ { w with drawn := w.drawn + 1 } = bound_size_one_R2_H S K ρ { w with drawn := w.drawn + 1 } := by kernel_rfl
  rw [e]
  exact W_pland S (Pd.take 0 (Pd.take 2 (Pd.two false false 1 3 (Pd.only false 3 (Pd.take 4 (Pd.take 5 (Pd.only false 6 Pd.done)))) (Pd.only false 1 (Pd.take 4 (Pd.take 5 (Pd.only false 6 Pd.done))))))) (by kernel_rfl) (by kernel_rfl) (by kernel_rfl) (by kernel_rfl) hS (Eq.mpr q h)
noncomputable def bound_size_one_R3_F (z : At) (K : Exit → Sl → World → Prop) (ρ : Sl) (w : World) : Prop :=
  BK Tryd.prog .add 3 (.tmp 14) (.const (Value.int .i64 1)) (ρ 14) (Value.int .i64 1) w fun x24 w => K .normal (up (up ρ 24 x24) 14 x24) w
theorem bound_size_one_R3_eq (z : At) (K : Exit → Sl → World → Prop) (ρ : Sl) (w : World) : sx z Tryd.prog 74 bound_size_one_R3 K ρ w = bound_size_one_R3_F z K ρ w := by kernel_rfl
noncomputable def bound_size_one_R4_F (z : At) (K : Exit → Sl → World → Prop) (ρ : Sl) (w : World) : Prop :=
  VK Tryd.prog (Instr.loadAt 58 (ρ 5)) w fun x72 w => CK Tryd.prog (Value.func (Fn.func 76) #[] #[]) [x72] w fun x73 w => UK Tryd.prog (Instr.storeAt 58 (ρ 4) x73) w fun _ w => K .ret (up (up ρ 72 x72) 73 x73) w
theorem bound_size_one_R4_eq (z : At) (K : Exit → Sl → World → Prop) (ρ : Sl) (w : World) : sx z Tryd.prog 74 bound_size_one_R4 K ρ w = bound_size_one_R4_F z K ρ w := by kernel_rfl
noncomputable def bound_size_one_R5_ops : Array Oper := opsOf bound_size_one_R5
def bound_size_one_R5_H (S : World → Prop) (K : Exit → Sl → World → Prop) (ρ : Sl) (w : World) : Prop :=
  HK Tryd.prog S (do pure (Next.value (← Instr.loadAt 58 (ρ 8)))) fun x42_1 => HK Tryd.prog S (do pure (Next.value (← Instr.fieldAt 25 (ρ 3) 7))) fun x44_1 => HK Tryd.prog S (do pure (Next.value (← Instr.loadAt 23 x44_1))) fun x45_1 => (VK Tryd.prog (Instr.loadAt 58 (ρ 5)) w fun x41_1 w => S w ∧ (CK Tryd.prog (Value.func (Fn.func 47) #[] #[]) [(ρ 0), x45_1] w fun x46_1 w => S w ∧ (CK Tryd.prog (Value.func (Fn.func 92) #[] #[]) [x42_1, x46_1] w fun x47_1 w => S w ∧ (CK Tryd.prog (Value.func (Fn.func 48) #[] #[]) [x41_1, x47_1] w fun x48_1 w => S w ∧ (UK Tryd.prog (Instr.storeAt 58 (ρ 5) x48_1) w fun _ w => S w ∧ (K Exit.normal (up (up (up (up (up (up (up (up ρ 42 x42_1) 43 (ρ 0)) 44 x44_1) 45 x45_1) 41 x41_1) 46 x46_1) 47 x47_1) 48 x48_1) w)))))) ∧ (CK Tryd.prog (Value.func (Fn.func 47) #[] #[]) [(ρ 0), x45_1] w fun x46_2 w => S w ∧ ((VK Tryd.prog (Instr.loadAt 58 (ρ 5)) w fun x41_2 w => S w ∧ (CK Tryd.prog (Value.func (Fn.func 92) #[] #[]) [x42_1, x46_2] w fun x47_2 w => S w ∧ (CK Tryd.prog (Value.func (Fn.func 48) #[] #[]) [x41_2, x47_2] w fun x48_2 w => S w ∧ (UK Tryd.prog (Instr.storeAt 58 (ρ 5) x48_2) w fun _ w => S w ∧ (K Exit.normal (up (up (up (up (up (up (up (up ρ 42 x42_1) 43 (ρ 0)) 44 x44_1) 45 x45_1) 46 x46_2) 41 x41_2) 47 x47_2) 48 x48_2) w))))) ∧ (CK Tryd.prog (Value.func (Fn.func 92) #[] #[]) [x42_1, x46_2] w fun x47_3 w => S w ∧ (VK Tryd.prog (Instr.loadAt 58 (ρ 5)) w fun x41_3 w => S w ∧ (CK Tryd.prog (Value.func (Fn.func 48) #[] #[]) [x41_3, x47_3] w fun x48_3 w => S w ∧ (UK Tryd.prog (Instr.storeAt 58 (ρ 5) x48_3) w fun _ w => S w ∧ (K Exit.normal (up (up (up (up (up (up (up (up ρ 42 x42_1) 43 (ρ 0)) 44 x44_1) 45 x45_1) 46 x46_2) 47 x47_3) 41 x41_3) 48 x48_3) w)))))))
theorem bound_size_one_R5_held {D : List Deferred} (S : World → Prop) {K : Exit → Sl → World → Prop} {ρ : Sl} {w : World} (hS : S { w with drawn := w.drawn + 1 }) (h : bound_size_one_R5_H S K ρ { w with drawn := w.drawn + 1 }) : W ⟨none, D⟩ Tryd.prog 74 bound_size_one_R5 K ρ w := by
  have e : bound_size_one_R5 = .region (idOf bound_size_one_R5) bound_size_one_R5_ops true := by kernel_rfl
  have q : sxd Tryd.prog S bound_size_one_R5_ops (K .normal) (Pd.take 1 (Pd.take 2 (Pd.take 3 (Pd.take 4 (Pd.two false false 0 5 (Pd.only false 5 (Pd.only false 6 (Pd.only false 7 (Pd.only false 8 Pd.done)))) (Pd.two false false 0 6 (Pd.only false 6 (Pd.only false 7 (Pd.only false 8 Pd.done))) (Pd.only false 0 (Pd.only false 7 (Pd.only false 8 Pd.done))))))))) ρ { w with drawn := w.drawn + 1 } = bound_size_one_R5_H S K ρ { w with drawn := w.drawn + 1 } := by kernel_rfl
  rw [e]
  exact W_pland S (Pd.take 1 (Pd.take 2 (Pd.take 3 (Pd.take 4 (Pd.two false false 0 5 (Pd.only false 5 (Pd.only false 6 (Pd.only false 7 (Pd.only false 8 Pd.done)))) (Pd.two false false 0 6 (Pd.only false 6 (Pd.only false 7 (Pd.only false 8 Pd.done))) (Pd.only false 0 (Pd.only false 7 (Pd.only false 8 Pd.done))))))))) (by kernel_rfl) (by kernel_rfl) (by kernel_rfl) (by kernel_rfl) hS (Eq.mpr q h)
noncomputable def bound_size_one_R6_F (z : At) (K : Exit → Sl → World → Prop) (ρ : Sl) (w : World) : Prop :=
  VK Tryd.prog (Instr.fieldAt 25 (ρ 3) 6) w fun x57 w => VK Tryd.prog (Instr.loadAt 23 x57) w fun x58 w => CK Tryd.prog (Value.func (Fn.func 47) #[] #[]) [(ρ 0), x58] w fun x59 w => VK Tryd.prog (Instr.build 58 [(0, (Value.int .i64 9))].toArray) w fun x60 w => CK Tryd.prog (Value.func (Fn.func 48) #[] #[]) [x59, x60] w fun x61 w => CK Tryd.prog (Value.func (Fn.func 93) #[] #[]) [x61, (ρ 9)] w fun x63 w => VK Tryd.prog (Instr.build 58 [(0, (Value.int .i64 6))].toArray) w fun x64 w => CK Tryd.prog (Value.func (Fn.func 48) #[] #[]) [x63, x64] w fun x65 w => UK Tryd.prog (Instr.storeAt 58 (ρ 5) x65) w fun _ w => K .normal (up (up (up (up (up (up (up (up (up (up ρ 56 (ρ 0)) 57 x57) 58 x58) 59 x59) 60 x60) 61 x61) 62 (ρ 9)) 63 x63) 64 x64) 65 x65) w
theorem bound_size_one_R6_eq (z : At) (K : Exit → Sl → World → Prop) (ρ : Sl) (w : World) : sx z Tryd.prog 74 bound_size_one_R6 K ρ w = bound_size_one_R6_F z K ρ w := by kernel_rfl
noncomputable def bound_size_one_F (a0 a1 : Value) (w : World) (R : Value → World → Prop) : Prop :=
  VK Tryd.prog (Instr.box 25 a1) w fun x3 w => VK Tryd.prog (Instr.alloc 58 true (.tuple #[])) w fun x4 w => VK Tryd.prog (Instr.build 58 [(0, (Value.int .i64 1))].toArray) w fun x10 w => VK Tryd.prog (Instr.alloc 58 true (.tuple #[])) w fun x5 w => UK Tryd.prog (Instr.storeAt 58 x5 x10) w fun _ w => VK Tryd.prog (Instr.fieldAt 25 x3 5) w fun x11 w => VK Tryd.prog (Instr.loadAt 22 x11) w fun x12 w => IK Tryd.prog .len #[22] 3 [false] [x12] w fun x13 w => W fn_ Tryd.prog 74 (Code.loop bound_size_one_L0) (blkK 0 (seqK (sx fn_ Tryd.prog 74 bound_size_one_R1 (retK Tryd.prog [ResultVar.cell 4 58] R)) (retK Tryd.prog [ResultVar.cell 4 58] R))) (up (up (up (up (up (up (up (up (rho0 [a0, a1]) 3 x3) 4 x4) 10 x10) 5 x5) 11 x11) 12 x12) 13 x13) 14 (Value.int .i64 0)) w
theorem bound_size_one_eq (a0 a1 : Value) (w : World) (R : Value → World → Prop) : sx fn_ Tryd.prog 74 bound_size_one_b (retK Tryd.prog Tryd.f75.results.toList R) (rho0 [a0, a1]) w = bound_size_one_F a0 a1 w R := by kernel_rfl
theorem bound_size_one_calls {a0 a1 : Value} {w : World} {R : Value → World → Prop} (h : bound_size_one_F a0 a1 w R) : Calls Tryd.prog 75 #[a0, a1] w fun e w' => ∃ v, e = .returned v ∧ R v w' :=
  Go.X.calls_of_sx (n := 74) (c := bound_size_one_b) Tryd.func75 (by kernel_rfl) (by kernel_rfl) (Nat.le_of_ble_eq_true rfl) (by kernel_rfl) (Eq.mpr (bound_size_one_eq a0 a1 w R) h)
noncomputable def bound_Bound_cut_b : Code := (Tryd.f76.body).getD .skip
noncomputable def bound_Bound_cut_F (a0 : Value) (w : World) (R : Value → World → Prop) : Prop :=
  VK Tryd.prog (Instr.box 58 a0) w fun x1 w => VK Tryd.prog (Instr.alloc 58 true (.tuple #[])) w fun x2 w => VK Tryd.prog (Instr.fieldAt 58 x1 0) w fun x3 w => VK Tryd.prog (Instr.loadAt 3 x3) w fun x4 w => IK Tryd.prog .min #[3, 3] 3 [false, true] [x4, (Value.int .i64 1048577)] w fun x5 w => VK Tryd.prog (Instr.fieldAt 58 x1 1) w fun x6 w => VK Tryd.prog (Instr.loadAt 3 x6) w fun x7 w => IK Tryd.prog .min #[3, 3] 3 [false, true] [x7, (Value.int .i64 1048577)] w fun x8 w => VK Tryd.prog (Instr.fieldAt 58 x1 2) w fun x9 w => VK Tryd.prog (Instr.loadAt 3 x9) w fun x10 w => IK Tryd.prog .min #[3, 3] 3 [false, true] [x10, (Value.int .i64 1048577)] w fun x11 w => VK Tryd.prog (Instr.build 58 [(0, x5), (1, x8), (2, x11)].toArray) w fun x12 w => UK Tryd.prog (Instr.storeAt 58 x2 x12) w fun _ w => ∃ x2_1, (do loadVar 58 (← asAddr x2) : Sem Value).run Tryd.prog w = .ok x2_1 w ∧ R x2_1 w
theorem bound_Bound_cut_eq (a0 : Value) (w : World) (R : Value → World → Prop) : sx fn_ Tryd.prog 13 bound_Bound_cut_b (retK Tryd.prog Tryd.f76.results.toList R) (rho0 [a0]) w = bound_Bound_cut_F a0 w R := by kernel_rfl
theorem bound_Bound_cut_calls {a0 : Value} {w : World} {R : Value → World → Prop} (h : bound_Bound_cut_F a0 w R) : Calls Tryd.prog 76 #[a0] w fun e w' => ∃ v, e = .returned v ∧ R v w' :=
  Go.X.calls_of_sx (n := 13) (c := bound_Bound_cut_b) Tryd.func76 (by kernel_rfl) (by kernel_rfl) (Nat.le_of_ble_eq_true rfl) (by kernel_rfl) (Eq.mpr (bound_Bound_cut_eq a0 w R) h)
noncomputable def bound_loops_1_b : Code := (Tryd.f90.body).getD .skip
noncomputable def bound_loops_1_F (a0 : Value) (w : World) (R : Value → World → Prop) : Prop :=
  VK Tryd.prog (Instr.box 25 a0) w fun x1 w => VK Tryd.prog (Instr.fieldAt 25 x1 0) w fun x3 w => VK Tryd.prog (Instr.loadAt 5 x3) w fun x4 w => BK Tryd.prog .eql 5 (.tmp 4) (.const (Value.int .u8 4)) x4 (Value.int .u8 4) w fun x5 w => VG Tryd.prog x5 false (Instr.fieldAt 25 x1 6) w fun x7 w => VG Tryd.prog x5 false (Instr.loadAt 23 x7) w fun x8 w => CG Tryd.prog x5 false (Value.func (Fn.func 74) #[] #[]) [x8] w fun x9 w => PK Tryd.prog x5 (Value.bool true) x9 w fun x10 w => VG Tryd.prog x10 false (Instr.fieldAt 25 x1 7) w fun x12 w => VG Tryd.prog x10 false (Instr.loadAt 23 x12) w fun x13 w => CG Tryd.prog x10 false (Value.func (Fn.func 74) #[] #[]) [x13] w fun x14 w => PK Tryd.prog x10 (Value.bool true) x14 w fun x15 w => R x15 w
theorem bound_loops_1_eq (a0 : Value) (w : World) (R : Value → World → Prop) : sx fn_ Tryd.prog 16 bound_loops_1_b (retK Tryd.prog Tryd.f90.results.toList R) (rho0 [a0]) w = bound_loops_1_F a0 w R := by kernel_rfl
theorem bound_loops_1_calls {a0 : Value} {w : World} {R : Value → World → Prop} (h : bound_loops_1_F a0 w R) : Calls Tryd.prog 90 #[a0] w fun e w' => ∃ v, e = .returned v ∧ R v w' :=
  Go.X.calls_of_sx (n := 16) (c := bound_loops_1_b) Tryd.func90 (by kernel_rfl) (by kernel_rfl) (Nat.le_of_ble_eq_true rfl) (by kernel_rfl) (Eq.mpr (bound_loops_1_eq a0 w R) h)
noncomputable def bound_Bound_or_b : Code := (Tryd.f92.body).getD .skip
noncomputable def bound_Bound_or_R0 : Code := cAt [1, 0] bound_Bound_or_b
noncomputable def bound_Bound_or_R1 : Code := cAt [1, 1] bound_Bound_or_b
noncomputable def bound_Bound_or_R0_ops : Array Oper := opsOf bound_Bound_or_R0
def bound_Bound_or_R0_T (K : Exit → Sl → World → Prop) (ρ : Sl) (w : World) : Prop :=
  let C : World → Prop := fun w' => w' = w; QK Tryd.prog C (do pure (Next.value (← Instr.fieldAt 58 (ρ 2) 0))) fun x5 => QK Tryd.prog C (do pure (Next.value (← Instr.loadAt 3 x5))) fun x6 => QK Tryd.prog C (do pure (Next.value (← Instr.fieldAt 58 (ρ 3) 0))) fun x7 => QK Tryd.prog C (do pure (Next.value (← Instr.loadAt 3 x7))) fun x8 => QK Tryd.prog C (do let d ← Deferred.ofValue (Value.func (Fn.func 99) #[] #[]) [x6, x8].toArray; invoke d.target d.args) fun x9 => QK Tryd.prog C (do pure (Next.value (← Instr.fieldAt 58 (ρ 2) 1))) fun x10 => QK Tryd.prog C (do pure (Next.value (← Instr.loadAt 3 x10))) fun x11 => QK Tryd.prog C (do pure (Next.value (← Instr.fieldAt 58 (ρ 3) 1))) fun x12 => QK Tryd.prog C (do pure (Next.value (← Instr.loadAt 3 x12))) fun x13 => QK Tryd.prog C (do let d ← Deferred.ofValue (Value.func (Fn.func 99) #[] #[]) [x11, x13].toArray; invoke d.target d.args) fun x14 => QK Tryd.prog C (do pure (Next.value (← Instr.fieldAt 58 (ρ 2) 2))) fun x15 => QK Tryd.prog C (do pure (Next.value (← Instr.loadAt 3 x15))) fun x16 => QK Tryd.prog C (do pure (Next.value (← Instr.fieldAt 58 (ρ 3) 2))) fun x17 => QK Tryd.prog C (do pure (Next.value (← Instr.loadAt 3 x17))) fun x18 => CK Tryd.prog (Value.func (Fn.func 99) #[] #[]) [x16, x18] w fun x19 w => VK Tryd.prog (Instr.build 58 [(0, x9), (1, x14), (2, x19)].toArray) w fun x20 w => UK Tryd.prog (Instr.storeAt 58 (ρ 4) x20) w fun _ w => K Exit.normal (up (up (up (up (up (up (up (up (up (up (up (up (up (up (up (up ρ 5 x5) 6 x6) 7 x7) 8 x8) 9 x9) 10 x10) 11 x11) 12 x12) 13 x13) 14 x14) 15 x15) 16 x16) 17 x17) 18 x18) 19 x19) 20 x20) w
theorem bound_Bound_or_R0_tail {D : List Deferred} {K : Exit → Sl → World → Prop} {ρ : Sl} {w : World} (h : bound_Bound_or_R0_T K ρ { w with drawn := w.drawn + 1 }) : W ⟨none, D⟩ Tryd.prog 21 bound_Bound_or_R0 K ρ w := by
  have e : bound_Bound_or_R0 = .region (idOf bound_Bound_or_R0) bound_Bound_or_R0_ops true := by kernel_rfl
  have q : sxq Tryd.prog (fun w' => w' = { w with drawn := w.drawn + 1 }) bound_Bound_or_R0_ops (fun ρ' => sxL Tryd.prog bound_Bound_or_R0_ops (K .normal) (bound_Bound_or_R0_ops.toList.drop 14) ρ' { w with drawn := w.drawn + 1 }) (bound_Bound_or_R0_ops.toList.take 14) ρ = bound_Bound_or_R0_T K ρ { w with drawn := w.drawn + 1 } := by kernel_rfl
  rw [e]
  exact W_tail 14 (by kernel_rfl) (by kernel_rfl) (by kernel_rfl) (by kernel_rfl) (Eq.mpr q h)
noncomputable def bound_Bound_or_R1_F (z : At) (K : Exit → Sl → World → Prop) (ρ : Sl) (w : World) : Prop :=
  K .ret ρ w
theorem bound_Bound_or_R1_eq (z : At) (K : Exit → Sl → World → Prop) (ρ : Sl) (w : World) : sx z Tryd.prog 21 bound_Bound_or_R1 K ρ w = bound_Bound_or_R1_F z K ρ w := by kernel_rfl
noncomputable def bound_Bound_or_F (a0 a1 : Value) (w : World) (R : Value → World → Prop) : Prop :=
  VK Tryd.prog (Instr.box 58 a0) w fun x2 w => VK Tryd.prog (Instr.box 58 a1) w fun x3 w => VK Tryd.prog (Instr.alloc 58 true (.tuple #[])) w fun x4 w => W fn_ Tryd.prog 21 bound_Bound_or_R0 (seqK (sx fn_ Tryd.prog 21 bound_Bound_or_R1 (retK Tryd.prog [ResultVar.cell 4 58] R)) (retK Tryd.prog [ResultVar.cell 4 58] R)) (up (up (up (rho0 [a0, a1]) 2 x2) 3 x3) 4 x4) w
theorem bound_Bound_or_eq (a0 a1 : Value) (w : World) (R : Value → World → Prop) : sx fn_ Tryd.prog 21 bound_Bound_or_b (retK Tryd.prog Tryd.f92.results.toList R) (rho0 [a0, a1]) w = bound_Bound_or_F a0 a1 w R := by kernel_rfl
theorem bound_Bound_or_calls {a0 a1 : Value} {w : World} {R : Value → World → Prop} (h : bound_Bound_or_F a0 a1 w R) : Calls Tryd.prog 92 #[a0, a1] w fun e w' => ∃ v, e = .returned v ∧ R v w' :=
  Go.X.calls_of_sx (n := 21) (c := bound_Bound_or_b) Tryd.func92 (by kernel_rfl) (by kernel_rfl) (Nat.le_of_ble_eq_true rfl) (by kernel_rfl) (Eq.mpr (bound_Bound_or_eq a0 a1 w R) h)
noncomputable def bound_Bound_times_b : Code := (Tryd.f93.body).getD .skip
noncomputable def bound_Bound_times_F (a0 a1 : Value) (w : World) (R : Value → World → Prop) : Prop :=
  VK Tryd.prog (Instr.box 58 a0) w fun x2 w => VK Tryd.prog (Instr.alloc 58 true (.tuple #[])) w fun x4 w => VK Tryd.prog (Instr.fieldAt 58 x2 0) w fun x5 w => VK Tryd.prog (Instr.loadAt 3 x5) w fun x6 w => BK Tryd.prog .mul 3 (.tmp 6) (.tmp 7) x6 a1 w fun x8 w => VK Tryd.prog (Instr.fieldAt 58 x2 1) w fun x9 w => VK Tryd.prog (Instr.loadAt 3 x9) w fun x10 w => BK Tryd.prog .mul 3 (.tmp 10) (.tmp 11) x10 a1 w fun x12 w => VK Tryd.prog (Instr.fieldAt 58 x2 2) w fun x13 w => VK Tryd.prog (Instr.loadAt 3 x13) w fun x14 w => BK Tryd.prog .mul 3 (.tmp 14) (.tmp 15) x14 a1 w fun x16 w => VK Tryd.prog (Instr.build 58 [(0, x8), (1, x12), (2, x16)].toArray) w fun x17 w => UK Tryd.prog (Instr.storeAt 58 x4 x17) w fun _ w => ∃ x4_1, (do loadVar 58 (← asAddr x4) : Sem Value).run Tryd.prog w = .ok x4_1 w ∧ R x4_1 w
theorem bound_Bound_times_eq (a0 a1 : Value) (w : World) (R : Value → World → Prop) : sx fn_ Tryd.prog 18 bound_Bound_times_b (retK Tryd.prog Tryd.f93.results.toList R) (rho0 [a0, a1]) w = bound_Bound_times_F a0 a1 w R := by kernel_rfl
theorem bound_Bound_times_calls {a0 a1 : Value} {w : World} {R : Value → World → Prop} (h : bound_Bound_times_F a0 a1 w R) : Calls Tryd.prog 93 #[a0, a1] w fun e w' => ∃ v, e = .returned v ∧ R v w' :=
  Go.X.calls_of_sx (n := 18) (c := bound_Bound_times_b) Tryd.func93 (by kernel_rfl) (by kernel_rfl) (Nat.le_of_ble_eq_true rfl) (by kernel_rfl) (Eq.mpr (bound_Bound_times_eq a0 a1 w R) h)
noncomputable def bound_Decides_b : Code := (Tryd.f51.body).getD .skip
noncomputable def bound_Decides_R0 : Code := cAt [1, 1, 0, 1, 0, 1] bound_Decides_b
noncomputable def bound_Decides_R1 : Code := cAt [1, 1, 1] bound_Decides_b
noncomputable def bound_Decides_R2 : Code := cAt [1, 1, 0, 1, 0, 1, 1, 1] bound_Decides_b
noncomputable def bound_Decides_R0_F (z : At) (K : Exit → Sl → World → Prop) (ρ : Sl) (w : World) : Prop :=
  CondK (ρ 8) (VK Tryd.prog (Instr.fieldAt 25 (ρ 1) 5) w fun x12 w => VK Tryd.prog (Instr.loadAt 22 x12) w fun x13 w => IK Tryd.prog .len #[22] 3 [false] [x13] w fun x14 w => BK Tryd.prog .lss 3 (.tmp 14) (.const (Value.int .i64 2)) x14 (Value.int .i64 2) w fun x15 w => VG Tryd.prog x15 false (Instr.fieldAt 25 (ρ 1) 5) w fun x17 w => VG Tryd.prog x15 false (Instr.loadAt 22 x17) w fun x18 w => VG Tryd.prog x15 false (Instr.indexAt 22 x18 (Value.int .i64 1)) w fun x19 w => VG Tryd.prog x15 false (Instr.fieldAt 29 x19 0) w fun x20 w => VG Tryd.prog x15 false (Instr.loadAt 5 x20) w fun x21 w => BG Tryd.prog x15 false .neq 5 (.tmp 21) (.const (Value.int .u8 1)) x21 (Value.int .u8 1) w fun x22 w => PK Tryd.prog x15 (Value.bool true) x22 w fun x23 w => K .ret (up (up (up (up (up (up (up (up (up (up (up (up (up ρ 12 x12) 13 x13) 14 x14) 15 x15) 16 x15) 17 x17) 18 x18) 19 x19) 20 x20) 21 x21) 22 x22) 23 x23) 2 x23) w) (BK Tryd.prog .eql 5 (.tmp 7) (.const (Value.int .u8 14)) (ρ 7) (Value.int .u8 14) w fun x25 w => CondK x25 (sx z Tryd.prog 29 bound_Decides_R2 K (up (up ρ 25 x25) 24 x25) w) (BK Tryd.prog .eql 5 (.tmp 7) (.const (Value.int .u8 10)) (ρ 7) (Value.int .u8 10) w fun x26 w => CondK x26 (sx z Tryd.prog 29 bound_Decides_R2 K (up (up (up (up ρ 25 x25) 24 x25) 26 x26) 24 x26) w) (BK Tryd.prog .eql 5 (.tmp 7) (.const (Value.int .u8 11)) (ρ 7) (Value.int .u8 11) w fun x27 w => CondK x27 (sx z Tryd.prog 29 bound_Decides_R2 K (up (up (up (up (up (up ρ 25 x25) 24 x25) 26 x26) 24 x26) 27 x27) 24 x27) w) (BK Tryd.prog .eql 5 (.tmp 7) (.const (Value.int .u8 12)) (ρ 7) (Value.int .u8 12) w fun x28 w => sx z Tryd.prog 29 bound_Decides_R2 K (up (up (up (up (up (up (up (up ρ 25 x25) 24 x25) 26 x26) 24 x26) 27 x27) 24 x27) 28 x28) 24 x28) w))))
theorem bound_Decides_R0_eq (z : At) (K : Exit → Sl → World → Prop) (ρ : Sl) (w : World) : sx z Tryd.prog 29 bound_Decides_R0 K ρ w = bound_Decides_R0_F z K ρ w := by kernel_rfl
noncomputable def bound_Decides_R1_F (z : At) (K : Exit → Sl → World → Prop) (ρ : Sl) (w : World) : Prop :=
  K .ret (up ρ 2 (Value.bool false)) w
theorem bound_Decides_R1_eq (z : At) (K : Exit → Sl → World → Prop) (ρ : Sl) (w : World) : sx z Tryd.prog 29 bound_Decides_R1 K ρ w = bound_Decides_R1_F z K ρ w := by kernel_rfl
noncomputable def bound_Decides_R2_F (z : At) (K : Exit → Sl → World → Prop) (ρ : Sl) (w : World) : Prop :=
  CondK (ρ 24) (K .ret (up ρ 2 (Value.bool true)) w) (K .normal ρ w)
theorem bound_Decides_R2_eq (z : At) (K : Exit → Sl → World → Prop) (ρ : Sl) (w : World) : sx z Tryd.prog 29 bound_Decides_R2 K ρ w = bound_Decides_R2_F z K ρ w := by kernel_rfl
noncomputable def bound_Decides_F (a0 : Value) (w : World) (R : Value → World → Prop) : Prop :=
  VK Tryd.prog (Instr.box 25 a0) w fun x1 w => VK Tryd.prog (Instr.fieldAt 25 x1 0) w fun x3 w => VK Tryd.prog (Instr.loadAt 5 x3) w fun x4 w => BK Tryd.prog .neq 5 (.tmp 4) (.const (Value.int .u8 8)) x4 (Value.int .u8 8) w fun x5 w => CondK x5 (R (Value.bool false) w) (VK Tryd.prog (Instr.fieldAt 25 x1 1) w fun x6 w => VK Tryd.prog (Instr.loadAt 5 x6) w fun x7 w => BK Tryd.prog .eql 5 (.tmp 7) (.const (Value.int .u8 6)) x7 (Value.int .u8 6) w fun x9 w => CondK x9 (sx fn_ Tryd.prog 29 bound_Decides_R0 (blkK 0 (seqK (sx fn_ Tryd.prog 29 bound_Decides_R1 (retK Tryd.prog [ResultVar.tmp 2] R)) (retK Tryd.prog [ResultVar.tmp 2] R))) (up (up (up (up (up (up (up (up (up (rho0 [a0]) 1 x1) 2 (Value.bool false)) 3 x3) 4 x4) 5 x5) 6 x6) 7 x7) 9 x9) 8 x9) w) (BK Tryd.prog .eql 5 (.tmp 7) (.const (Value.int .u8 7)) x7 (Value.int .u8 7) w fun x10 w => CondK x10 (sx fn_ Tryd.prog 29 bound_Decides_R0 (blkK 0 (seqK (sx fn_ Tryd.prog 29 bound_Decides_R1 (retK Tryd.prog [ResultVar.tmp 2] R)) (retK Tryd.prog [ResultVar.tmp 2] R))) (up (up (up (up (up (up (up (up (up (up (up (rho0 [a0]) 1 x1) 2 (Value.bool false)) 3 x3) 4 x4) 5 x5) 6 x6) 7 x7) 9 x9) 8 x9) 10 x10) 8 x10) w) (BK Tryd.prog .eql 5 (.tmp 7) (.const (Value.int .u8 13)) x7 (Value.int .u8 13) w fun x11 w => sx fn_ Tryd.prog 29 bound_Decides_R0 (blkK 0 (seqK (sx fn_ Tryd.prog 29 bound_Decides_R1 (retK Tryd.prog [ResultVar.tmp 2] R)) (retK Tryd.prog [ResultVar.tmp 2] R))) (up (up (up (up (up (up (up (up (up (up (up (up (up (rho0 [a0]) 1 x1) 2 (Value.bool false)) 3 x3) 4 x4) 5 x5) 6 x6) 7 x7) 9 x9) 8 x9) 10 x10) 8 x10) 11 x11) 8 x11) w)))
theorem bound_Decides_eq (a0 : Value) (w : World) (R : Value → World → Prop) : sx fn_ Tryd.prog 29 bound_Decides_b (retK Tryd.prog Tryd.f51.results.toList R) (rho0 [a0]) w = bound_Decides_F a0 w R := by kernel_rfl
theorem bound_Decides_calls {a0 : Value} {w : World} {R : Value → World → Prop} (h : bound_Decides_F a0 w R) : Calls Tryd.prog 51 #[a0] w fun e w' => ∃ v, e = .returned v ∧ R v w' :=
  Go.X.calls_of_sx (n := 29) (c := bound_Decides_b) Tryd.func51 (by kernel_rfl) (by kernel_rfl) (Nat.le_of_ble_eq_true rfl) (by kernel_rfl) (Eq.mpr (bound_Decides_eq a0 w R) h)
noncomputable def bound_greater_int_b : Code := (Tryd.f99.body).getD .skip
noncomputable def bound_greater_int_F (a0 a1 : Value) (w : World) (R : Value → World → Prop) : Prop :=
  CK Tryd.prog (Value.func (Fn.func 100) #[] #[]) [a0, a1] w fun x7 w => CondK x7 (R a1 w) (R a0 w)
theorem bound_greater_int_eq (a0 a1 : Value) (w : World) (R : Value → World → Prop) : sx fn_ Tryd.prog 10 bound_greater_int_b (retK Tryd.prog Tryd.f99.results.toList R) (rho0 [a0, a1]) w = bound_greater_int_F a0 a1 w R := by kernel_rfl
theorem bound_greater_int_calls {a0 a1 : Value} {w : World} {R : Value → World → Prop} (h : bound_greater_int_F a0 a1 w R) : Calls Tryd.prog 99 #[a0, a1] w fun e w' => ∃ v, e = .returned v ∧ R v w' :=
  Go.X.calls_of_sx (n := 10) (c := bound_greater_int_b) Tryd.func99 (by kernel_rfl) (by kernel_rfl) (Nat.le_of_ble_eq_true rfl) (by kernel_rfl) (Eq.mpr (bound_greater_int_eq a0 a1 w R) h)
noncomputable def cmp_Less_int_b : Code := (Tryd.f100.body).getD .skip
noncomputable def cmp_Less_int_F (a0 a1 : Value) (w : World) (R : Value → World → Prop) : Prop :=
  CK Tryd.prog (Value.func (Fn.func 101) #[] #[]) [a0] w fun x6 w => MG Tryd.prog x6 true a1 w fun x8 w => CG Tryd.prog x6 true (Value.func (Fn.func 101) #[] #[]) [x8] w fun x9 w => VG Tryd.prog x6 true (Op.unary UnOp.not x9) w fun x10 w => PK Tryd.prog x6 x10 (Value.bool false) w fun x11 w => MG Tryd.prog x11 false a0 w fun x13 w => MG Tryd.prog x11 false a1 w fun x14 w => BG Tryd.prog x11 false .lss 3 (.tmp 13) (.tmp 14) x13 x14 w fun x15 w => PK Tryd.prog x11 (Value.bool true) x15 w fun x16 w => R x16 w
theorem cmp_Less_int_eq (a0 a1 : Value) (w : World) (R : Value → World → Prop) : sx fn_ Tryd.prog 17 cmp_Less_int_b (retK Tryd.prog Tryd.f100.results.toList R) (rho0 [a0, a1]) w = cmp_Less_int_F a0 a1 w R := by kernel_rfl
theorem cmp_Less_int_calls {a0 a1 : Value} {w : World} {R : Value → World → Prop} (h : cmp_Less_int_F a0 a1 w R) : Calls Tryd.prog 100 #[a0, a1] w fun e w' => ∃ v, e = .returned v ∧ R v w' :=
  Go.X.calls_of_sx (n := 17) (c := cmp_Less_int_b) Tryd.func100 (by kernel_rfl) (by kernel_rfl) (Nat.le_of_ble_eq_true rfl) (by kernel_rfl) (Eq.mpr (cmp_Less_int_eq a0 a1 w R) h)
noncomputable def cmp_isNaN_int_b : Code := (Tryd.f101.body).getD .skip
noncomputable def cmp_isNaN_int_F (a0 : Value) (w : World) (R : Value → World → Prop) : Prop :=
  BK Tryd.prog .neq 3 (.tmp 3) (.tmp 4) a0 a0 w fun x5 w => R x5 w
theorem cmp_isNaN_int_eq (a0 : Value) (w : World) (R : Value → World → Prop) : sx fn_ Tryd.prog 6 cmp_isNaN_int_b (retK Tryd.prog Tryd.f101.results.toList R) (rho0 [a0]) w = cmp_isNaN_int_F a0 w R := by kernel_rfl
theorem cmp_isNaN_int_calls {a0 : Value} {w : World} {R : Value → World → Prop} (h : cmp_isNaN_int_F a0 w R) : Calls Tryd.prog 101 #[a0] w fun e w' => ∃ v, e = .returned v ∧ R v w' :=
  Go.X.calls_of_sx (n := 6) (c := cmp_isNaN_int_b) Tryd.func101 (by kernel_rfl) (by kernel_rfl) (Nat.le_of_ble_eq_true rfl) (by kernel_rfl) (Eq.mpr (cmp_isNaN_int_eq a0 w R) h)
end Go.Proofs.YtpkfbaagpjdifaaDoor.XH
set_option linter.unusedVariables false
set_option linter.unusedSimpArgs false
set_option maxRecDepth 4000
namespace Go.Proofs.YtpkfbaagpjdifaaDoor.Tr
open Go Go.X Go.RowKit Go.Proofs.YtpkfbaagpjdifaaDoor.XH Go.Proofs.YtpkfbaagpjdifaaDoor.XK
structure Bd where
  s : Int
  c : Int
  d : Int
deriving DecidableEq
def Bd.cells (e : Bd) : List Value := [.int .i64 e.s, .int .i64 e.c, .int .i64 e.d]
def Bd.v (e : Bd) : Value := .agg e.cells.toArray
def zBd : Bd := ⟨0, 0, 0⟩
def cut1 (n : Int) : Int := if 1048577 < n then 1048577 else n
def Bd.cut (b : Bd) : Bd := ⟨cut1 b.s, cut1 b.c, cut1 b.d⟩
def Bd.and (a b : Bd) : Bd := ⟨a.s + b.s, a.c + b.c, a.d + b.d⟩
def mx (a b : Int) : Int := if b > a then b else a
def Bd.or (a b : Bd) : Bd := ⟨mx a.s b.s, mx a.c b.c, mx a.d b.d⟩
def Bd.times (a : Bd) (n : Int) : Bd := ⟨a.s * n, a.c * n, a.d * n⟩
def Bd.In (b : Bd) (m : Int) : Prop := (0 ≤ b.s ∧ b.s ≤ m) ∧ (0 ≤ b.c ∧ b.c ≤ m) ∧ (0 ≤ b.d ∧ b.d ≤ m)
theorem cut1_in {n m : Int} (h : 0 ≤ n ∧ n ≤ m) : 0 ≤ cut1 n ∧ cut1 n ≤ 1048577 := by unfold cut1; split <;> omega
theorem Bd.In.cut {b : Bd} {m : Int} (h : b.In m) : b.cut.In 1048577 := ⟨cut1_in h.1, cut1_in h.2.1, cut1_in h.2.2⟩
theorem Bd.In.and {a b : Bd} {m k : Int} (h : a.In m) (h2 : b.In k) : (a.and b).In (m + k) := by
  obtain ⟨⟨a1, a2⟩, ⟨a3, a4⟩, a5, a6⟩ := h
  obtain ⟨⟨b1, b2⟩, ⟨b3, b4⟩, b5, b6⟩ := h2
  unfold Bd.and Bd.In
  dsimp only
  omega
theorem mx_in {a b m : Int} (h : 0 ≤ a ∧ a ≤ m) (h2 : 0 ≤ b ∧ b ≤ m) : 0 ≤ mx a b ∧ mx a b ≤ m := by unfold mx; split <;> omega
theorem Bd.In.or {a b : Bd} {m : Int} (h : a.In m) (h2 : b.In m) : (a.or b).In m := ⟨mx_in h.1 h2.1, mx_in h.2.1 h2.2.1, mx_in h.2.2 h2.2.2⟩
theorem Bd.In.mono {b : Bd} {m k : Int} (h : b.In m) (hk : m ≤ k) : b.In k := by
  obtain ⟨⟨a1, a2⟩, ⟨a3, a4⟩, a5, a6⟩ := h
  unfold Bd.In
  omega
theorem mul_in {a m n k : Int} (h : 0 ≤ a ∧ a ≤ m) (h2 : 0 ≤ n ∧ n ≤ k) : 0 ≤ a * n ∧ a * n ≤ m * k := ⟨Int.mul_nonneg h.1 h2.1, Int.mul_le_mul h.2 h2.2 h2.1 (by omega)⟩
theorem Bd.In.times {b : Bd} {m n k : Int} (h : b.In m) (h2 : 0 ≤ n ∧ n ≤ k) : (b.times n).In (m * k) := ⟨mul_in h.1 h2, mul_in h.2.1 h2, mul_in h.2.2 h2⟩
theorem zBd_in (m : Int) (h : 0 ≤ m) : zBd.In m := ⟨⟨Int.le_refl _, h⟩, ⟨Int.le_refl _, h⟩, Int.le_refl _, h⟩
theorem zBnd : (Tryd.prog.info? 58).bind (·.zero) = some (.agg zBd.cells.toArray) := by kernel_rfl
theorem iBnd : (Tryd.prog.info? 58).map (·.size) = some 3 := by kernel_rfl
theorem bBd0 : Tryd.prog.built 58 [] = some zBd.cells.toArray := by kernel_rfl
theorem bBd1 (n : Int) : Tryd.prog.built 58 [(0, .int .i64 n)] = some (Bd.mk n 0 0).cells.toArray := by kernel_rfl
theorem bBd3 (n a b : Int) : Tryd.prog.built 58 [(0, .int .i64 n), (1, .int .i64 a), (2, .int .i64 b)] = some (Bd.mk n a b).cells.toArray := by kernel_rfl
theorem bd_one (e : Bd) : (e.cells.toArray.all (·.oneCell')) = true := by simp [Bd.cells, Value.oneCell']
theorem bdF {w : World} {b : Nat} {e : Bd} {ty : TypeId} (h : w.heap[b]? = some (.cells e.cells.toArray ty (0, 0))) : FAt Tryd.prog w 58 0 ⟨b, 0, none⟩ 3 (.int .i64 e.s) ∧ FAt Tryd.prog w 58 1 ⟨b, 0, none⟩ 3 (.int .i64 e.c) ∧ FAt Tryd.prog w 58 2 ⟨b, 0, none⟩ 3 (.int .i64 e.d) :=
  ⟨FAt.mk' (off := 0) (by kernel_rfl) uI rfl (by rw [add_pl, cell_blk h]; rfl), FAt.mk' (off := 1) (by kernel_rfl) uI rfl (by rw [add_pl, cell_blk h]; rfl), FAt.mk' (off := 2) (by kernel_rfl) uI rfl (by rw [add_pl, cell_blk h]; rfl)⟩
theorem wrap_in {n m : Int} (h : 0 ≤ n ∧ n ≤ m) (hm : m < 9223372036854775808) : IntKind.i64.wrap n = n := wrap_i (by omega) (by omega)
theorem And_ok {w : World} {a b : Bd} {m : Int} (hi : (a.and b).In m) (hm : m < 9223372036854775808) : Rt Tryd.prog 48 #[a.v, b.v] w fun v w' => v = (a.and b).v ∧ Mod none_ w w' := by
  refine bound_Bound_and_calls ?_
  unfold bound_Bound_and_F
  refine box_k (cs := a.cells.toArray) rfl fun w1 hb1 hm1 hz1 => ?_
  refine box_k (cs := b.cells.toArray) rfl fun w2 hb2 hm2 hz2 => ?_
  refine al_k zBnd rfl _ fun w3 hb3 hm3 hz3 => ?_
  obtain ⟨a0, a1, a2⟩ := bdF ((hm2.trans hm3).blk hb1 id)
  obtain ⟨b0, b1, b2⟩ := bdF (hm3.blk hb2 id)
  refine a0.vk' fun _ => b0.vk' fun _ => ?_
  rw [BK_add, wrap_in (n := a.s + b.s) hi.1 hm]
  refine a1.vk' fun _ => b1.vk' fun _ => ?_
  rw [BK_add, wrap_in (n := a.c + b.c) hi.2.1 hm]
  refine a2.vk' fun _ => b2.vk' fun _ => ?_
  rw [BK_add, wrap_in (n := a.d + b.d) hi.2.2 hm, build_ok (bBd3 _ _ _)]
  refine stS (old := zBd.cells.toArray) (cs := (a.and b).cells.toArray) rfl rfl iBnd rfl (bd_one _) hb3 fun w4 hb4 hm4 _ => ?_
  exact ⟨_, res_ld (run_ldB (cs := (a.and b).cells.toArray) Tryd.underlying58 rfl iBnd hb4), rfl, ((hm1.trans hm2).trans hm3).then hm4 (fun i hi q => absurd q (by omega))⟩
theorem Cut_ok {w : World} (a : Bd) : Rt Tryd.prog 76 #[a.v] w fun v w' => v = a.cut.v ∧ Mod none_ w w' := by
  refine bound_Bound_cut_calls ?_
  unfold bound_Bound_cut_F
  refine box_k (cs := a.cells.toArray) rfl fun w1 hb1 hm1 hz1 => ?_
  refine al_k zBnd rfl _ fun w3 hb3 hm3 hz3 => ?_
  obtain ⟨a0, a1, a2⟩ := bdF (hm3.blk hb1 id)
  refine a0.vk' fun _ => ?_
  rw [min_i]
  refine a1.vk' fun _ => ?_
  rw [min_i]
  refine a2.vk' fun _ => ?_
  rw [min_i, build_ok (bBd3 _ _ _)]
  refine stS (old := zBd.cells.toArray) (cs := a.cut.cells.toArray) rfl rfl iBnd rfl (bd_one _) hb3 fun w4 hb4 hm4 _ => ?_
  exact ⟨_, res_ld (run_ldB (cs := a.cut.cells.toArray) Tryd.underlying58 rfl iBnd hb4), rfl, (hm1.trans hm3).then hm4 (fun i hi q => absurd q (by omega))⟩
theorem Times_ok {w : World} {a : Bd} {n m : Int} (hi : (a.times n).In m) (hm : m < 9223372036854775808) : Rt Tryd.prog 93 #[a.v, .int .i64 n] w fun v w' => v = (a.times n).v ∧ Mod none_ w w' := by
  refine bound_Bound_times_calls ?_
  unfold bound_Bound_times_F
  refine box_k (cs := a.cells.toArray) rfl fun w1 hb1 hm1 hz1 => ?_
  refine al_k zBnd rfl _ fun w3 hb3 hm3 hz3 => ?_
  obtain ⟨a0, a1, a2⟩ := bdF (hm3.blk hb1 id)
  refine a0.vk' fun _ => ?_
  rw [BK_mul, wrap_in (n := a.s * n) hi.1 hm]
  refine a1.vk' fun _ => ?_
  rw [BK_mul, wrap_in (n := a.c * n) hi.2.1 hm]
  refine a2.vk' fun _ => ?_
  rw [BK_mul, wrap_in (n := a.d * n) hi.2.2 hm, build_ok (bBd3 _ _ _)]
  refine stS (old := zBd.cells.toArray) (cs := (a.times n).cells.toArray) rfl rfl iBnd rfl (bd_one _) hb3 fun w4 hb4 hm4 _ => ?_
  exact ⟨_, res_ld (run_ldB (cs := (a.times n).cells.toArray) Tryd.underlying58 rfl iBnd hb4), rfl, (hm1.trans hm3).then hm4 (fun i hi q => absurd q (by omega))⟩
theorem isNaN_ok {w : World} (a : Int) : Rt Tryd.prog 101 #[.int .i64 a] w fun v w' => v = .bool false ∧ w' = w := by
  refine cmp_isNaN_int_calls ?_
  unfold cmp_isNaN_int_F
  rw [BK_neq]
  exact ⟨by simp, rfl⟩
theorem Less_ok {w : World} (a b : Int) : Rt Tryd.prog 100 #[.int .i64 a, .int .i64 b] w fun v w' => v = .bool (decide (a < b)) ∧ w' = w := by
  refine cmp_Less_int_calls ?_
  unfold cmp_Less_int_F
  refine CK_st Tryd.func101 rfl rfl (isNaN_ok a) ?_
  rintro v w' ⟨rfl, rfl⟩
  simp only [CondK_bool, MG_u, NG_u, VG_u, UG_u, PG_u, BG_u, CG_u, IG_u, MG_b, NG_b, VG_b, UG_b, PG_b, BG_b, CG_b, IG_b, PK_bool, NK_ptr, not_ok, reduceCtorEq, if_true, if_false, Bool.true_eq_false, Bool.false_eq_true, Bool.not_true, Bool.not_false]
  rw [BK_lss]
  exact ⟨rfl, rfl⟩
theorem greater_ok {w : World} (a b : Int) : Rt Tryd.prog 99 #[.int .i64 a, .int .i64 b] w fun v w' => v = .int .i64 (mx a b) ∧ w' = w := by
  refine bound_greater_int_calls ?_
  unfold bound_greater_int_F
  refine CK_st Tryd.func100 rfl rfl (Less_ok a b) ?_
  rintro v w' ⟨rfl, rfl⟩
  unfold mx
  refine caseC (fun h => ?_) (fun h => ?_)
  · rw [if_pos (of_decide_eq_true h)]; exact ⟨rfl, rfl⟩
  · rw [if_neg (of_decide_eq_false h)]; exact ⟨rfl, rfl⟩
theorem Or_ok {w : World} (a b : Bd) : Rt Tryd.prog 92 #[a.v, b.v] w fun v w' => v = (a.or b).v ∧ Mod none_ w w' := by
  refine bound_Bound_or_calls ?_
  unfold bound_Bound_or_F
  refine box_k (cs := a.cells.toArray) rfl fun w1 hb1 hm1 hz1 => ?_
  refine box_k (cs := b.cells.toArray) rfl fun w2 hb2 hm2 hz2 => ?_
  refine al_k zBnd rfl _ fun w3 hb3 hm3 hz3 => ?_
  have hba := (hm2.trans hm3).blk hb1 id
  have hbb := hm3.blk hb2 id
  refine bound_Bound_or_R0_tail (D := []) ?_
  unfold bound_Bound_or_R0_T
  have hm03 : Mod none_ w { w3 with drawn := w3.drawn + 1 } := ((hm1.trans hm2).trans hm3).drawn _
  have hbd : ({ w3 with drawn := w3.drawn + 1 } : World).heap[w2.heap.size]? = some (.cells zBd.cells.toArray 58 (0, 0)) := hb3
  have hbda : ({ w3 with drawn := w3.drawn + 1 } : World).heap[w.heap.size]? = some (.cells a.cells.toArray 58 (0, 0)) := hba
  have hbdb : ({ w3 with drawn := w3.drawn + 1 } : World).heap[w1.heap.size]? = some (.cells b.cells.toArray 58 (0, 0)) := hbb
  generalize ({ w3 with drawn := w3.drawn + 1 } : World) = wd at hm03 hbd hbda hbdb ⊢
  dsimp only
  have ga : ∀ (x y : Int), ∀ {K : Value → Prop}, K (.int .i64 (mx x y)) → QK Tryd.prog (fun w' => w' = wd) (do let d ← Deferred.ofValue (.func (.func 99) #[] #[]) [.int .i64 x, .int .i64 y].toArray; invoke d.target d.args) K := fun x y K hk =>
    QC_rt (R := fun w' v w'' => v = .int .i64 (mx x y) ∧ w'' = w') Tryd.func99 rfl rfl (v := .int .i64 (mx x y)) (fun w' hw => greater_ok x y) (fun w' u w'' hw hu => ⟨hu.1, hu.2.trans hw⟩) hk
  refine Qfo (off := 0) (a := ⟨w.heap.size, 0, none⟩) (by kernel_rfl) (Qld uI rfl (v := .int .i64 a.s) (fun w' hw => by rw [hw, add_pl, cell_blk hbda]; rfl) ?_)
  refine Qfo (off := 0) (a := ⟨w1.heap.size, 0, none⟩) (by kernel_rfl) (Qld uI rfl (v := .int .i64 b.s) (fun w' hw => by rw [hw, add_pl, cell_blk hbdb]; rfl) ?_)
  refine ga _ _ ?_
  refine Qfo (off := 1) (a := ⟨w.heap.size, 0, none⟩) (by kernel_rfl) (Qld uI rfl (v := .int .i64 a.c) (fun w' hw => by rw [hw, add_pl, cell_blk hbda]; rfl) ?_)
  refine Qfo (off := 1) (a := ⟨w1.heap.size, 0, none⟩) (by kernel_rfl) (Qld uI rfl (v := .int .i64 b.c) (fun w' hw => by rw [hw, add_pl, cell_blk hbdb]; rfl) ?_)
  refine ga _ _ ?_
  refine Qfo (off := 2) (a := ⟨w.heap.size, 0, none⟩) (by kernel_rfl) (Qld uI rfl (v := .int .i64 a.d) (fun w' hw => by rw [hw, add_pl, cell_blk hbda]; rfl) ?_)
  refine Qfo (off := 2) (a := ⟨w1.heap.size, 0, none⟩) (by kernel_rfl) (Qld uI rfl (v := .int .i64 b.d) (fun w' hw => by rw [hw, add_pl, cell_blk hbdb]; rfl) ?_)
  refine CK_st Tryd.func99 rfl rfl (greater_ok a.d b.d) ?_
  rintro v w' ⟨rfl, rfl⟩
  rw [build_ok (bBd3 _ _ _)]
  refine stS (b := w2.heap.size) (old := zBd.cells.toArray) (cs := (a.or b).cells.toArray) rfl rfl iBnd rfl (bd_one _) hbd fun w4 hb4 hm4 _ => ?_
  rw [sq_n, bound_Bound_or_R1_eq]
  unfold bound_Bound_or_R1_F
  refine rtCell (b := w2.heap.size) (cs := (a.or b).cells.toArray) rfl Tryd.underlying58 rfl iBnd hb4 ⟨rfl, hm03.then hm4 fun i hi q => absurd q (by omega)⟩
end Go.Proofs.YtpkfbaagpjdifaaDoor.Tr
set_option linter.unusedVariables false
set_option linter.unusedSimpArgs false
set_option maxRecDepth 4000
namespace Go.X
open Go
mutual
def St.lp : St → Bool
  | ⟨op, _, _, _, _, _, _, _, body, _, els, _, _⟩ => (op == 4 || St.lpL body) || St.lpL els
def St.lpL : List St → Bool
  | [] => false
  | e :: r => St.lp e || St.lpL r
end
theorem St.lp_eq (e : St) : e.lp = ((e.op == 4 || St.lpL e.body) || St.lpL e.els) := by obtain ⟨op, kind, red, name, turns, es, exprs, bs, body, ls, els, line, col⟩ := e; rw [St.lp]
theorem St.lpL_eq : ∀ l : List St, St.lpL l = l.any St.lp
  | [] => by simp [St.lpL]
  | e :: r => by simp [St.lpL, St.lpL_eq r]
def St.dec (e : St) : Bool := decide (e.op = 8) && (if e.kind = 6 ∨ e.kind = 7 ∨ e.kind = 13 then (decide (e.exprs.length < 2) || (e.exprs[1]?).any fun x => x.op != 1) else decide (e.kind = 10 ∨ e.kind = 11 ∨ e.kind = 12 ∨ e.kind = 14))
end Go.X
namespace Go.Proofs.YtpkfbaagpjdifaaDoor.Tr
open Go Go.X Go.RowKit Go.Proofs.YtpkfbaagpjdifaaDoor.XH Go.Proofs.YtpkfbaagpjdifaaDoor.XK
def LoopsOk (l : List St) : Prop := ∀ (w : World) (s : Value), StsOk w s l → St.szL l ≤ 1099511627776 → Rt Tryd.prog 74 #[s] w fun v w' => v = .bool (St.lpL l) ∧ Mod none_ w w'
theorem loops_row {l : List St} (ih : ∀ a ∈ l, LoopsOk a.body ∧ LoopsOk a.els) : LoopsOk l := by
  intro w s hok hsz
  have hlen := St.len_sz l
  refine bound_loops_calls ?_
  unfold bound_loops_F
  rw [St.lpL_eq]
  refine CK_st Tryd.func32 rfl rfl (ContainsFuncSt_ok (p := St.lp) hok (by omega) ?_) (fun v w' h => h)
  intro a ha w1 hm1 K hk
  obtain ⟨ihB, ihE⟩ := ih a ha
  obtain ⟨n, hx⟩ := List.getElem?_of_mem ha
  have hsn := St.szL_at hx
  have hsz2 := St.sz_eq a
  refine CK_st (R := fun v w' => v = .bool a.lp ∧ Mod none_ w1 w') Tryd.func90 rfl rfl ?_ (fun v w' h => by rw [h.1]; exact hk _ h.2)
  refine bound_loops_1_calls ?_
  unfold bound_loops_1_F
  have hoka := (hok.2 a ha).mod hm1
  refine box_k (cs := a.cells.toArray) rfl fun w2 hb2 hm2 hz2 => ?_
  have d0 : FAt Tryd.prog w2 25 0 ⟨w1.heap.size, 0, none⟩ 5 (.int .u8 a.op) := FAt.mk' (off := 0) (by kernel_rfl) uU8 rfl (by rw [add_pl, cell_blk hb2]; rfl)
  have f6 : FAt Tryd.prog w2 25 6 ⟨w1.heap.size, 0, none⟩ 23 a.bs := FAt.mk' (off := 6) (by kernel_rfl) uSts rfl (by rw [add_pl, cell_blk hb2]; rfl)
  have hlp := St.lp_eq a
  refine d0.vk' fun _ => ?_
  refine BKeqI (a := a.op) (b := 4) rfl rfl (fun q => ?_) (fun q => ?_)
  · simp only [CondK_bool, MG_u, NG_u, VG_u, UG_u, PG_u, BG_u, CG_u, IG_u, MG_b, NG_b, VG_b, UG_b, PG_b, BG_b, CG_b, IG_b, PK_bool, NK_ptr, not_ok, reduceCtorEq, if_true, if_false, Bool.true_eq_false, Bool.false_eq_true, Bool.not_true, Bool.not_false]
    refine ⟨?_, hm2⟩
    rw [hlp, q]; rfl
  · simp only [CondK_bool, MG_u, NG_u, VG_u, UG_u, PG_u, BG_u, CG_u, IG_u, MG_b, NG_b, VG_b, UG_b, PG_b, BG_b, CG_b, IG_b, PK_bool, NK_ptr, not_ok, reduceCtorEq, if_true, if_false, Bool.true_eq_false, Bool.false_eq_true, Bool.not_true, Bool.not_false]
    rw [show (a.op == 4) = false by simp [q], Bool.false_or] at hlp
    refine f6.vk' fun _ => ?_
    refine CK_st Tryd.func74 rfl rfl (ihB w2 _ (hoka.mod hm2).body (by omega)) ?_
    rintro _ w3 ⟨rfl, hm3⟩
    have f7 : FAt Tryd.prog w3 25 7 ⟨w1.heap.size, 0, none⟩ 23 a.ls := FAt.mk' (off := 7) (by kernel_rfl) uSts rfl (by rw [add_pl, cell_blk (hm3.blk hb2 id)]; rfl)
    cases hB : St.lpL a.body with
    | true =>
      simp only [CondK_bool, MG_u, NG_u, VG_u, UG_u, PG_u, BG_u, CG_u, IG_u, MG_b, NG_b, VG_b, UG_b, PG_b, BG_b, CG_b, IG_b, PK_bool, NK_ptr, not_ok, reduceCtorEq, if_true, if_false, Bool.true_eq_false, Bool.false_eq_true, Bool.not_true, Bool.not_false]
      refine ⟨?_, hm2.trans hm3⟩
      rw [hlp, hB]; rfl
    | false =>
      simp only [CondK_bool, MG_u, NG_u, VG_u, UG_u, PG_u, BG_u, CG_u, IG_u, MG_b, NG_b, VG_b, UG_b, PG_b, BG_b, CG_b, IG_b, PK_bool, NK_ptr, not_ok, reduceCtorEq, if_true, if_false, Bool.true_eq_false, Bool.false_eq_true, Bool.not_true, Bool.not_false]
      rw [hB, Bool.false_or] at hlp
      refine f7.vk' fun _ => ?_
      refine CK_st Tryd.func74 rfl rfl (ihE w3 _ ((hoka.mod hm2).mod hm3).els (by omega)) ?_
      rintro _ w4 ⟨rfl, hm4⟩
      refine ⟨?_, (hm2.trans hm3).trans hm4⟩
      rw [hlp]
theorem loops_all : ∀ e : St, LoopsOk e.body ∧ LoopsOk e.els := by
  intro e
  induction e using St.ind with
  | h e ih1 ih2 => exact ⟨loops_row ih1, loops_row ih2⟩
theorem Loops_ok (l : List St) : LoopsOk l := loops_row fun a _ => loops_all a
theorem Counted_ok {w : World} {p : Pr} (h : p.Ok w) (hf : p.fits) : Rt Tryd.prog 46 #[.agg p.cells.toArray] w fun v w' => v = .bool (!St.lpL p.body) ∧ Mod none_ w w' := by
  refine bound_Counted_calls ?_
  unfold bound_Counted_F
  refine box_k (cs := p.cells.toArray) rfl fun w1 hb1 hm1 hz1 => ?_
  have f1 : FAt Tryd.prog w1 34 1 ⟨w.heap.size, 0, none⟩ 23 p.bs := FAt.mk' (off := 1) (by kernel_rfl) uSts rfl (by rw [add_pl, cell_blk hb1]; rfl)
  refine f1.vk' fun _ => ?_
  refine CK_st Tryd.func74 rfl rfl (Loops_ok p.body w1 _ (h.mod hm1).b hf.2) ?_
  rintro _ w2 ⟨rfl, hm2⟩
  rw [not_ok]
  exact ⟨rfl, hm1.trans hm2⟩
end Go.Proofs.YtpkfbaagpjdifaaDoor.Tr
set_option linter.unusedVariables false
set_option linter.unusedSimpArgs false
set_option maxRecDepth 4000
namespace Go.Proofs.YtpkfbaagpjdifaaDoor.Tr
open Go Go.X Go.RowKit Go.Proofs.YtpkfbaagpjdifaaDoor.XH Go.Proofs.YtpkfbaagpjdifaaDoor.XK
theorem dec_no {e : St} (h : e.op ≠ 8) : e.dec = false := by unfold St.dec; rw [decide_eq_false h]; rfl
theorem dec_ex {e : St} (h : e.op = 8) (hk : e.kind = 6 ∨ e.kind = 7 ∨ e.kind = 13) : e.dec = (decide (e.exprs.length < 2) || (e.exprs[1]?).any fun x => x.op != 1) := by unfold St.dec; rw [decide_eq_true h, if_pos hk]; rfl
theorem dec_else {e : St} (h : e.op = 8) (hk : ¬(e.kind = 6 ∨ e.kind = 7 ∨ e.kind = 13)) : e.dec = decide (e.kind = 10 ∨ e.kind = 11 ∨ e.kind = 12 ∨ e.kind = 14) := by unfold St.dec; rw [decide_eq_true h, if_neg hk]; rfl
theorem Decides_ok {w : World} {e : St} (hok : e.Ok w) : Rt Tryd.prog 51 #[.agg e.cells.toArray] w fun v w' => v = .bool e.dec ∧ Mod none_ w w' := by
  obtain ⟨A, c, hs, _⟩ := reads_cap hok.exprs.1
  refine bound_Decides_calls ?_
  unfold bound_Decides_F
  refine box_k (cs := e.cells.toArray) rfl fun w1 hb1 hm1 hz1 => ?_
  have hrow : ExsOk w1 (.slice A e.exprs.length c) e.exprs := by rw [← hs]; exact hok.exprs.mod hm1
  generalize w.heap.size = b at *
  have d0 : FAt Tryd.prog w1 25 0 ⟨b, 0, none⟩ 5 (.int .u8 e.op) := FAt.mk' (off := 0) (by kernel_rfl) uU8 rfl (by rw [add_pl, cell_blk hb1]; rfl)
  have d1 : FAt Tryd.prog w1 25 1 ⟨b, 0, none⟩ 5 (.int .u8 e.kind) := FAt.mk' (off := 1) (by kernel_rfl) uU8 rfl (by rw [add_pl, cell_blk hb1]; rfl)
  have d5 : FAt Tryd.prog w1 25 5 ⟨b, 0, none⟩ 22 (.slice A e.exprs.length c) := FAt.mk' (off := 5) (by kernel_rfl) uExs rfl (by rw [add_pl, cell_blk hb1, ← hs]; rfl)
  refine d0.vk' fun _ => ?_
  refine BKneI (a := e.op) (b := 8) rfl rfl (fun h8 => condF ?_) (fun h8 => condT ?_)
  rotate_left
  · rw [dec_no h8]; exact ⟨rfl, hm1⟩
  have r2 : ∀ (ρ' : Sl) (t : Bool), ρ' 24 = .bool t → t = e.dec → sx fn_ Tryd.prog 29 bound_Decides_R2 (blkK 0 (seqK (sx fn_ Tryd.prog 29 bound_Decides_R1 (retK Tryd.prog [ResultVar.tmp 2] fun v w' => v = .bool e.dec ∧ Mod none_ w w')) (retK Tryd.prog [ResultVar.tmp 2] fun v w' => v = .bool e.dec ∧ Mod none_ w w'))) ρ' w1 := by
    intro ρ' t q24 ht
    rw [bound_Decides_R2_eq]
    unfold bound_Decides_R2_F
    refine caseN q24 (fun h => ?_) (fun h => ?_)
    · rw [bk_r, sq_r]
      rw [← ht, h]
      exact ⟨rfl, hm1⟩
    · rw [bk_n, sq_n, bound_Decides_R1_eq]
      unfold bound_Decides_R1_F
      rw [← ht, h]
      exact ⟨rfl, hm1⟩
  have r0 : ∀ (ρ' : Sl) (t : Bool), ρ' 8 = .bool t → t = decide (e.kind = 6 ∨ e.kind = 7 ∨ e.kind = 13) → ρ' 1 = .pointer (some ⟨b, 0, none⟩) → ρ' 7 = .int .u8 e.kind → sx fn_ Tryd.prog 29 bound_Decides_R0 (blkK 0 (seqK (sx fn_ Tryd.prog 29 bound_Decides_R1 (retK Tryd.prog [ResultVar.tmp 2] fun v w' => v = .bool e.dec ∧ Mod none_ w w')) (retK Tryd.prog [ResultVar.tmp 2] fun v w' => v = .bool e.dec ∧ Mod none_ w w'))) ρ' w1 := by
    intro ρ' t q8 ht q1 q7
    rw [bound_Decides_R0_eq]
    unfold bound_Decides_R0_F
    refine caseN q8 (fun h => ?_) (fun h => ?_)
    · have hk := of_decide_eq_true (ht.symm.trans h)
      have hd := dec_ex h8 hk
      refine d5.vs q1 fun _ => ?_
      rw [len22]
      refine BKlss (a := e.exprs.length) (b := 2) rfl rfl ?_
      by_cases hl : e.exprs.length < 2
      · rw [show decide ((e.exprs.length : Int) < 2) = true by rw [decide_eq_true_eq]; omega]
        simp only [CondK_bool, MG_u, NG_u, VG_u, UG_u, PG_u, BG_u, CG_u, IG_u, MG_b, NG_b, VG_b, UG_b, PG_b, BG_b, CG_b, IG_b, PK_bool, NK_ptr, not_ok, reduceCtorEq, if_true, if_false, Bool.true_eq_false, Bool.false_eq_true, Bool.not_true, Bool.not_false]
        rw [bk_r, sq_r]
        refine ⟨?_, hm1⟩
        show Value.bool true = _
        rw [hd, decide_eq_true hl]; rfl
      · rw [show decide ((e.exprs.length : Int) < 2) = false by rw [decide_eq_false_iff_not]; omega]
        simp only [CondK_bool, MG_u, NG_u, VG_u, UG_u, PG_u, BG_u, CG_u, IG_u, MG_b, NG_b, VG_b, UG_b, PG_b, BG_b, CG_b, IG_b, PK_bool, NK_ptr, not_ok, reduceCtorEq, if_true, if_false, Bool.true_eq_false, Bool.false_eq_true, Bool.not_true, Bool.not_false]
        have hx : e.exprs[1]? = some e.exprs[1] := List.getElem?_eq_getElem (by omega)
        refine d5.vs q1 fun _ => ?_
        refine ixExA (i := 1) hrow hx fun a ha => ?_
        have g0 : FAt Tryd.prog w1 29 0 a 5 (.int .u8 e.exprs[1].op) := FAt.mk' (off := 0) (by kernel_rfl) uU8 rfl (ha 0 _ rfl)
        refine g0.vk' fun _ => ?_
        rw [BK_neq, bk_r, sq_r]
        refine ⟨?_, hm1⟩
        show Value.bool _ = _
        rw [hd, decide_eq_false hl, hx]; rfl
    · have hk := of_decide_eq_false (ht.symm.trans h)
      have hd := dec_else h8 hk
      refine BKeqI (a := e.kind) (b := 14) q7 rfl (fun h1 => condT ?_) (fun h1 => condF ?_)
      · exact r2 _ true rfl (by rw [hd, decide_eq_true (by omega)])
      refine BKeqI (a := e.kind) (b := 10) ?_ rfl (fun h2 => condT ?_) (fun h2 => condF ?_)
      · exact q7
      · exact r2 _ true rfl (by rw [hd, decide_eq_true (by omega)])
      refine BKeqI (a := e.kind) (b := 11) ?_ rfl (fun h3 => condT ?_) (fun h3 => condF ?_)
      · exact q7
      · exact r2 _ true rfl (by rw [hd, decide_eq_true (by omega)])
      refine BKeqI (a := e.kind) (b := 12) ?_ rfl (fun h4 => ?_) (fun h4 => ?_)
      · exact q7
      · exact r2 _ true rfl (by rw [hd, decide_eq_true (by omega)])
      · exact r2 _ false rfl (by rw [hd, decide_eq_false (by omega)])
  refine d1.vk' fun _ => ?_
  refine BKeqI (a := e.kind) (b := 6) rfl rfl (fun h1 => condT ?_) (fun h1 => condF ?_)
  · exact r0 _ true rfl (by rw [decide_eq_true (by omega)]) rfl rfl
  refine BKeqI (a := e.kind) (b := 7) rfl rfl (fun h2 => condT ?_) (fun h2 => condF ?_)
  · exact r0 _ true rfl (by rw [decide_eq_true (by omega)]) rfl rfl
  refine BKeqI (a := e.kind) (b := 13) rfl rfl (fun h3 => ?_) (fun h3 => ?_)
  · exact r0 _ true rfl (by rw [decide_eq_true (by omega)]) rfl rfl
  · exact r0 _ false rfl (by rw [decide_eq_false (by omega)]) rfl rfl
end Go.Proofs.YtpkfbaagpjdifaaDoor.Tr
