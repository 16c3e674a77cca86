/- Several texts of this repo, one behind the other, without what is not used here. -/
import Derived.Test.YtpkfbaagpjdifaaDoorProg
import Derived.Test.YtpkfbaagpjdifaaDoorLV4
set_option linter.unusedVariables false
set_option maxRecDepth 100000
namespace Go.Proofs.YtpkfbaagpjdifaaDoor.XD
open Go Go.X
noncomputable def dispatcherref01_Scan_b : Code := (Tryd.f19.body).getD .skip
noncomputable def dispatcherref01_Scan_L0 : Code := cAt [1, 1, 1, 1, 0, 0, 0] dispatcherref01_Scan_b
noncomputable def dispatcherref01_Scan_R1 : Code := cAt [1, 1, 1, 1, 1] dispatcherref01_Scan_b
noncomputable def dispatcherref01_Scan_L2 : Code := cAt [1, 1, 1, 1, 0, 0, 0, 1, 0, 1, 0, 1, 1, 1, 1, 1, 0, 0, 0] dispatcherref01_Scan_b
noncomputable def dispatcherref01_Scan_L0_F (z : At) (K : Exit → Sl → World → Prop) (ρ : Sl) (w : World) : Prop :=
  IK Tryd.prog .len #[52] 3 [false] [(ρ 0)] w fun x18 w => BK Tryd.prog .lss 3 (.tmp 16) (.tmp 18) (ρ 7) x18 w fun x19 w => CondK x19 (VK Tryd.prog (Instr.indexAt 52 (ρ 0) (ρ 7)) w fun x22 w => VK Tryd.prog (Instr.loadAt 5 x22) w fun x23 w => BK Tryd.prog .eql 5 (.tmp 53) (.const (Value.int .u8 10)) x23 (Value.int .u8 10) w fun x54 w => CondK x54 (BK Tryd.prog .add 3 (.tmp 55) (.const (Value.int .i64 1)) (ρ 7) (Value.int .i64 1) w fun x56 w => BK Tryd.prog .add 3 (.tmp 57) (.const (Value.int .i64 1)) (ρ 8) (Value.int .i64 1) w fun x58 w => K .normal (up (up (up (up (up (up (up (up (up (up (up (up (up (up (up (up (up (up (up ρ 16 (ρ 7)) 17 (ρ 0)) 18 x18) 19 x19) 20 (ρ 0)) 21 (ρ 7)) 22 x22) 23 x23) 10 x23) 53 x23) 54 x54) 52 x54) 55 (ρ 7)) 56 x56) 7 x56) 57 (ρ 8)) 58 x58) 8 x58) 9 (Value.int .i64 1)) w) (BK Tryd.prog .eql 5 (.tmp 60) (.const (Value.int .u8 32)) x23 (Value.int .u8 32) w fun x61 w => MG Tryd.prog x61 false x23 w fun x63 w => BG Tryd.prog x61 false .eql 5 (.tmp 63) (.const (Value.int .u8 9)) x63 (Value.int .u8 9) w fun x64 w => PK Tryd.prog x61 (Value.bool true) x64 w fun x65 w => MG Tryd.prog x65 false x23 w fun x67 w => BG Tryd.prog x65 false .eql 5 (.tmp 67) (.const (Value.int .u8 13)) x67 (Value.int .u8 13) w fun x68 w => PK Tryd.prog x65 (Value.bool true) x68 w fun x69 w => CondK x69 (BK Tryd.prog .add 3 (.tmp 70) (.const (Value.int .i64 1)) (ρ 7) (Value.int .i64 1) w fun x71 w => BK Tryd.prog .add 3 (.tmp 72) (.const (Value.int .i64 1)) (ρ 9) (Value.int .i64 1) w fun x73 w => K .normal (up (up (up (up (up (up (up (up (up (up (up (up (up (up (up (up (up (up (up (up (up (up (up (up (up (up (up (up (up ρ 16 (ρ 7)) 17 (ρ 0)) 18 x18) 19 x19) 20 (ρ 0)) 21 (ρ 7)) 22 x22) 23 x23) 10 x23) 53 x23) 54 x54) 52 x54) 60 x23) 61 x61) 62 x61) 63 x63) 64 x64) 65 x65) 66 x65) 67 x67) 68 x68) 69 x69) 59 x69) 70 (ρ 7)) 71 x71) 7 x71) 72 (ρ 9)) 73 x73) 9 x73) w) (BK Tryd.prog .eql 5 (.tmp 75) (.const (Value.int .u8 35)) x23 (Value.int .u8 35) w fun x76 w => CondK x76 (W z Tryd.prog 93 (Code.loop dispatcherref01_Scan_L2) (blkK 3 (blkK 2 (blkK 1 K))) (up (up (up (up (up (up (up (up (up (up (up (up (up (up (up (up (up (up (up (up (up (up (up (up (up (up ρ 16 (ρ 7)) 17 (ρ 0)) 18 x18) 19 x19) 20 (ρ 0)) 21 (ρ 7)) 22 x22) 23 x23) 10 x23) 53 x23) 54 x54) 52 x54) 60 x23) 61 x61) 62 x61) 63 x63) 64 x64) 65 x65) 66 x65) 67 x67) 68 x68) 69 x69) 59 x69) 75 x23) 76 x76) 74 x76) w) (CK Tryd.prog (Value.func (Fn.func 35) #[] #[]) [(ρ 0), (ρ 7)] w fun x26 w => VK Tryd.prog (Instr.sliceAt 52 (ρ 0) (some (ρ 7)) (some x26) none) w fun x30 w => VK Tryd.prog (convert 52 9 x30) w fun x31 w => CK Tryd.prog (Value.func (Fn.func 36) #[] #[]) [x31] w fun x32 w => VK Tryd.prog (Instr.alloc 75 true (.tuple #[])) w fun x12 w => UK Tryd.prog (Instr.storeAt 75 x12 x32) w fun _ w => VK Tryd.prog (Instr.fieldAt 75 x12 0) w fun x33 w => VK Tryd.prog (Instr.loadAt 5 x33) w fun x34 w => BK Tryd.prog .eql 5 (.tmp 34) (.const (Value.int .u8 0)) x34 (Value.int .u8 0) w fun x35 w => CondK x35 (K .ret (up (up (up (up (up (up (up (up (up (up (up (up (up (up (up (up (up (up (up (up (up (up (up (up (up (up (up (up (up (up (up (up (up (up (up (up (up (up (up (up (up (up (up (up (up (up ρ 16 (ρ 7)) 17 (ρ 0)) 18 x18) 19 x19) 20 (ρ 0)) 21 (ρ 7)) 22 x22) 23 x23) 10 x23) 53 x23) 54 x54) 52 x54) 60 x23) 61 x61) 62 x61) 63 x63) 64 x64) 65 x65) 66 x65) 67 x67) 68 x68) 69 x69) 59 x69) 75 x23) 76 x76) 74 x76) 24 (ρ 0)) 25 (ρ 7)) 26 x26) 11 x26) 27 (ρ 0)) 28 (ρ 7)) 29 x26) 30 x30) 31 x31) 32 x32) 12 x12) 33 x33) 34 x34) 35 x35) 36 (ρ 8)) 37 (ρ 9)) 2 (Value.slice none 0 0)) 3 (ρ 8)) 4 (ρ 9)) 5 (Value.int .i64 10)) w) (VK Tryd.prog (Instr.fieldAt 75 x12 3) w fun x39 w => UK Tryd.prog (Instr.storeAt 3 x39 (ρ 8)) w fun _ w => VK Tryd.prog (Instr.fieldAt 75 x12 4) w fun x41 w => UK Tryd.prog (Instr.storeAt 3 x41 (ρ 9)) w fun _ w => VK Tryd.prog (Instr.loadAt 75 x12) w fun x43 w => VK Tryd.prog (Instr.buildSlice 49 1 [(0, x43)].toArray) w fun x44 w => IK Tryd.prog .append #[49, 49] 49 [false, false] [(ρ 6), x44] w fun x45 w => BK Tryd.prog .add 3 (.tmp 46) (.tmp 47) (ρ 9) x26 w fun x48 w => BK Tryd.prog .sub 3 (.tmp 48) (.tmp 49) x48 (ρ 7) w fun x50 w => K .normal (up (up (up (up (up (up (up (up (up (up (up (up (up (up (up (up (up (up (up (up (up (up (up (up (up (up (up (up (up (up (up (up (up (up (up (up (up (up (up (up (up (up (up (up (up (up (up (up (up (up (up (up (up (up (up (up (up ρ 16 (ρ 7)) 17 (ρ 0)) 18 x18) 19 x19) 20 (ρ 0)) 21 (ρ 7)) 22 x22) 23 x23) 10 x23) 53 x23) 54 x54) 52 x54) 60 x23) 61 x61) 62 x61) 63 x63) 64 x64) 65 x65) 66 x65) 67 x67) 68 x68) 69 x69) 59 x69) 75 x23) 76 x76) 74 x76) 24 (ρ 0)) 25 (ρ 7)) 26 x26) 11 x26) 27 (ρ 0)) 28 (ρ 7)) 29 x26) 30 x30) 31 x31) 32 x32) 12 x12) 33 x33) 34 x34) 35 x35) 38 (ρ 8)) 39 x39) 40 (ρ 9)) 41 x41) 42 (ρ 6)) 43 x43) 44 x44) 45 x45) 6 x45) 46 (ρ 9)) 47 x26) 48 x48) 49 (ρ 7)) 50 x50) 9 x50) 51 x26) 7 x26) w))))) (K (.exit 0) (up (up (up (up ρ 16 (ρ 7)) 17 (ρ 0)) 18 x18) 19 x19) w)
theorem dispatcherref01_Scan_L0_eq (z : At) (K : Exit → Sl → World → Prop) (ρ : Sl) (w : World) : sx z Tryd.prog 93 dispatcherref01_Scan_L0 K ρ w = dispatcherref01_Scan_L0_F z K ρ w := by kernel_rfl
theorem dispatcherref01_Scan_L0_ok : dstOk 93 dispatcherref01_Scan_L0 = true := by kernel_rfl
noncomputable def dispatcherref01_Scan_R1_F (z : At) (K : Exit → Sl → World → Prop) (ρ : Sl) (w : World) : Prop :=
  K .ret (up (up (up (up (up ρ 92 (ρ 6)) 2 (ρ 6)) 3 (Value.int .i64 0)) 4 (Value.int .i64 0)) 5 (Value.int .i64 0)) w
theorem dispatcherref01_Scan_R1_eq (z : At) (K : Exit → Sl → World → Prop) (ρ : Sl) (w : World) : sx z Tryd.prog 93 dispatcherref01_Scan_R1 K ρ w = dispatcherref01_Scan_R1_F z K ρ w := by kernel_rfl
noncomputable def dispatcherref01_Scan_F (a0 : Value) (w : World) (R : Value → World → Prop) : Prop :=
  IK Tryd.prog .len #[52] 3 [false] [a0] w fun x14 w => BK Tryd.prog .gtr 3 (.tmp 14) (.const (Value.int .i64 20000)) x14 (Value.int .i64 20000) w fun x15 w => CondK x15 (R (Value.tuple #[(Value.slice none 0 0), (Value.int .i64 0), (Value.int .i64 0), (Value.int .i64 3)]) w) (W fn_ Tryd.prog 93 (Code.loop dispatcherref01_Scan_L0) (blkK 0 (seqK (sx fn_ Tryd.prog 93 dispatcherref01_Scan_R1 (retK Tryd.prog [ResultVar.tmp 2, ResultVar.tmp 3, ResultVar.tmp 4, ResultVar.tmp 5] R)) (retK Tryd.prog [ResultVar.tmp 2, ResultVar.tmp 3, ResultVar.tmp 4, ResultVar.tmp 5] R))) (up (up (up (up (up (up (up (up (up (up (up (rho0 [a0]) 2 (Value.slice none 0 0)) 3 (Value.int .i64 0)) 4 (Value.int .i64 0)) 5 (Value.int .i64 0)) 13 a0) 14 x14) 15 x15) 6 (Value.slice none 0 0)) 7 (Value.int .i64 0)) 8 (Value.int .i64 1)) 9 (Value.int .i64 1)) w)
theorem dispatcherref01_Scan_eq (a0 : Value) (w : World) (R : Value → World → Prop) : sx fn_ Tryd.prog 93 dispatcherref01_Scan_b (retK Tryd.prog Tryd.f19.results.toList R) (rho0 [a0]) w = dispatcherref01_Scan_F a0 w R := by kernel_rfl
theorem dispatcherref01_Scan_calls {a0 : Value} {w : World} {R : Value → World → Prop} (h : dispatcherref01_Scan_F a0 w R) : Calls Tryd.prog 19 #[a0] w fun e w' => ∃ v, e = .returned v ∧ R v w' :=
  Go.X.calls_of_sx (n := 93) (c := dispatcherref01_Scan_b) Tryd.func19 (by kernel_rfl) (by kernel_rfl) (Nat.le_of_ble_eq_true rfl) (by kernel_rfl) (Eq.mpr (dispatcherref01_Scan_eq a0 w R) h)
noncomputable def dispatcherref02_Parse_b : Code := (Tryd.f20.body).getD .skip
noncomputable def dispatcherref02_Parse_L0 : Code := cAt [1, 1, 1, 0, 0, 0] dispatcherref02_Parse_b
noncomputable def dispatcherref02_Parse_R1 : Code := cAt [1, 1, 1, 1] dispatcherref02_Parse_b
noncomputable def dispatcherref02_Parse_R2 : Code := cAt [1, 1, 1, 0, 0, 0, 1, 0, 1, 0] dispatcherref02_Parse_b
noncomputable def dispatcherref02_Parse_R3 : Code := cAt [1, 1, 1, 0, 0, 0, 1, 0, 1, 1] dispatcherref02_Parse_b
noncomputable def dispatcherref02_Parse_L4 : Code := cAt [1, 1, 1, 1, 0, 0, 0] dispatcherref02_Parse_b
noncomputable def dispatcherref02_Parse_R5 : Code := cAt [1, 1, 1, 1, 1] dispatcherref02_Parse_b
noncomputable def dispatcherref02_Parse_R6 : Code := cAt [1, 1, 1, 0, 0, 0, 1, 0, 1, 1, 1] dispatcherref02_Parse_b
noncomputable def dispatcherref02_Parse_R7 : Code := cAt [1, 1, 1, 1, 0, 0, 0, 1, 0] dispatcherref02_Parse_b
noncomputable def dispatcherref02_Parse_R8 : Code := cAt [1, 1, 1, 1, 1, 1, 0, 0, 1, 0, 0] dispatcherref02_Parse_b
noncomputable def dispatcherref02_Parse_R9 : Code := cAt [1, 1, 1, 1, 1, 1, 0, 0, 1, 0, 1] dispatcherref02_Parse_b
noncomputable def dispatcherref02_Parse_R10 : Code := cAt [1, 1, 1, 1, 1, 1, 1] dispatcherref02_Parse_b
noncomputable def dispatcherref02_Parse_R11 : Code := cAt [1, 1, 1, 1, 1, 1, 0, 0, 1, 1, 1, 0, 0] dispatcherref02_Parse_b
noncomputable def dispatcherref02_Parse_R12 : Code := cAt [1, 1, 1, 1, 1, 1, 0, 0, 1, 1, 1, 0, 1] dispatcherref02_Parse_b
noncomputable def dispatcherref02_Parse_R13 : Code := cAt [1, 1, 1, 1, 1, 1, 0, 0, 1, 1, 1, 1, 1, 0, 1, 0] dispatcherref02_Parse_b
noncomputable def dispatcherref02_Parse_R14 : Code := cAt [1, 1, 1, 1, 1, 1, 0, 0, 1, 1, 1, 1, 1, 0, 1, 1] dispatcherref02_Parse_b
noncomputable def dispatcherref02_Parse_L0_F (z : At) (K : Exit → Sl → World → Prop) (ρ : Sl) (w : World) : Prop :=
  CK Tryd.prog (Value.func (Fn.func 37) #[] #[]) [(ρ 4), (Value.string { data := #[105, 110, 116] })] w fun x13 w => CondK x13 (CK Tryd.prog (Value.func (Fn.func 38) #[] #[]) [(ρ 4)] w fun x15 w => VK Tryd.prog (Instr.alloc 75 true (.tuple #[])) w fun x6 w => UK Tryd.prog (Instr.storeAt 75 x6 x15) w fun _ w => W z Tryd.prog 105 dispatcherref02_Parse_R2 (seqK (sx z Tryd.prog 105 dispatcherref02_Parse_R3 (blkK 1 K)) (blkK 1 K)) (up (up (up (up (up ρ 12 (ρ 4)) 13 x13) 14 (ρ 4)) 15 x15) 6 x6) w) (K (.exit 0) (up (up ρ 12 (ρ 4)) 13 x13) w)
theorem dispatcherref02_Parse_L0_eq (z : At) (K : Exit → Sl → World → Prop) (ρ : Sl) (w : World) : sx z Tryd.prog 105 dispatcherref02_Parse_L0 K ρ w = dispatcherref02_Parse_L0_F z K ρ w := by kernel_rfl
theorem dispatcherref02_Parse_L0_ok : dstOk 105 dispatcherref02_Parse_L0 = true := by kernel_rfl
noncomputable def dispatcherref02_Parse_R1_F (z : At) (K : Exit → Sl → World → Prop) (ρ : Sl) (w : World) : Prop :=
  W z Tryd.prog 105 (Code.loop dispatcherref02_Parse_L4) (blkK 2 (seqK (sx z Tryd.prog 105 dispatcherref02_Parse_R5 K) K)) ρ w
theorem dispatcherref02_Parse_R1_eq (z : At) (K : Exit → Sl → World → Prop) (ρ : Sl) (w : World) : sx z Tryd.prog 105 dispatcherref02_Parse_R1 K ρ w = dispatcherref02_Parse_R1_F z K ρ w := by kernel_rfl
noncomputable def dispatcherref02_Parse_R2_ops : Array Oper := opsOf dispatcherref02_Parse_R2
def dispatcherref02_Parse_R2_H (S : World → Prop) (K : Exit → Sl → World → Prop) (ρ : Sl) (w : World) : Prop :=
  HK Tryd.prog S (do pure (Next.value (← Instr.fieldAt 75 (ρ 6) 3))) fun x18 => HK Tryd.prog S (do pure (Next.value (← Instr.loadAt 3 x18))) fun x19 => HK Tryd.prog S (do pure (Next.value (← Instr.fieldAt 75 (ρ 6) 4))) fun x20 => HK Tryd.prog S (do pure (Next.value (← Instr.loadAt 3 x20))) fun x21 => (CK Tryd.prog (Value.func (Fn.func 39) #[] #[]) [(ρ 4)] w fun x17 w => S w ∧ (HK Tryd.prog S (do pure (Next.value (← Instr.build 43 [(0, x17), (2, x19), (3, x21)].toArray))) fun x22 => VK Tryd.prog (Instr.alloc 43 true (.tuple #[])) w fun x7 w => S w ∧ (UK Tryd.prog (Instr.storeAt 43 x7 x22) w fun _ w => S w ∧ (K Exit.normal (up (up (up (up (up (up (up (up ρ 16 (ρ 4)) 18 x18) 19 x19) 20 x20) 21 x21) 17 x17) 22 x22) 7 x7) w)))) ∧ (VK Tryd.prog (Instr.alloc 43 true (.tuple #[])) w fun x7_1 w => S w ∧ (CK Tryd.prog (Value.func (Fn.func 39) #[] #[]) [(ρ 4)] w fun x17_1 w => S w ∧ (HK Tryd.prog S (do pure (Next.value (← Instr.build 43 [(0, x17_1), (2, x19), (3, x21)].toArray))) fun x22_1 => UK Tryd.prog (Instr.storeAt 43 x7_1 x22_1) w fun _ w => S w ∧ (K Exit.normal (up (up (up (up (up (up (up (up ρ 16 (ρ 4)) 18 x18) 19 x19) 20 x20) 21 x21) 7 x7_1) 17 x17_1) 22 x22_1) w))))
theorem dispatcherref02_Parse_R2_held {D : List Deferred} (S : World → Prop) {K : Exit → Sl → World → Prop} {ρ : Sl} {w : World} (hS : S { w with drawn := w.drawn + 1 }) (h : dispatcherref02_Parse_R2_H S K ρ { w with drawn := w.drawn + 1 }) : W ⟨none, D⟩ Tryd.prog 105 dispatcherref02_Parse_R2 K ρ w := by
  have e : dispatcherref02_Parse_R2 = .region (idOf dispatcherref02_Parse_R2) dispatcherref02_Parse_R2_ops true := by kernel_rfl
  have q : sxp Tryd.prog S dispatcherref02_Parse_R2_ops (K .normal) (Pl.take 0 (Pl.take 2 (Pl.take 3 (Pl.take 4 (Pl.take 5 (Pl.two 1 7 (Pl.take 6 (Pl.only 7 (Pl.only 8 Pl.done))) (Pl.only 1 (Pl.take 6 (Pl.only 8 Pl.done))))))))) ρ { w with drawn := w.drawn + 1 } = dispatcherref02_Parse_R2_H S K ρ { w with drawn := w.drawn + 1 } := by kernel_rfl
  rw [e]
  exact W_plan S (Pl.take 0 (Pl.take 2 (Pl.take 3 (Pl.take 4 (Pl.take 5 (Pl.two 1 7 (Pl.take 6 (Pl.only 7 (Pl.only 8 Pl.done))) (Pl.only 1 (Pl.take 6 (Pl.only 8 Pl.done))))))))) (by kernel_rfl) (by kernel_rfl) (by kernel_rfl) (by kernel_rfl) hS (Eq.mpr q h)
noncomputable def dispatcherref02_Parse_R3_F (z : At) (K : Exit → Sl → World → Prop) (ρ : Sl) (w : World) : Prop :=
  CK Tryd.prog (Value.func (Fn.func 37) #[] #[]) [(ρ 4), (Value.string { data := #[91] })] w fun x24 w => CondK x24 (CK Tryd.prog (Value.func (Fn.func 40) #[] #[]) [(ρ 4), (Value.int .i64 1000)] w fun x26 w => VK Tryd.prog (Instr.fieldAt 43 (ρ 7) 1) w fun x27 w => UK Tryd.prog (Instr.storeAt 3 x27 x26) w fun _ w => CK Tryd.prog (Value.func (Fn.func 41) #[] #[]) [(ρ 4), (Value.string { data := #[93] })] w fun x29 w => sx z Tryd.prog 105 dispatcherref02_Parse_R6 K (up (up (up (up (up (up (up ρ 23 (ρ 4)) 24 x24) 25 (ρ 4)) 26 x26) 27 x27) 28 (ρ 4)) 29 x29) w) (sx z Tryd.prog 105 dispatcherref02_Parse_R6 K (up (up ρ 23 (ρ 4)) 24 x24) w)
theorem dispatcherref02_Parse_R3_eq (z : At) (K : Exit → Sl → World → Prop) (ρ : Sl) (w : World) : sx z Tryd.prog 105 dispatcherref02_Parse_R3 K ρ w = dispatcherref02_Parse_R3_F z K ρ w := by kernel_rfl
noncomputable def dispatcherref02_Parse_L4_F (z : At) (K : Exit → Sl → World → Prop) (ρ : Sl) (w : World) : Prop :=
  CK Tryd.prog (Value.func (Fn.func 42) #[] #[]) [(ρ 4)] w fun x39 w => MG Tryd.prog x39 true (ρ 4) w fun x41 w => NG Tryd.prog x39 true x41 w fun x42 w => VG Tryd.prog x39 true (Instr.fieldAt 79 x42 1) w fun x43 w => VG Tryd.prog x39 true (Instr.loadAt 3 x43) w fun x44 w => MG Tryd.prog x39 true (ρ 0) w fun x45 w => IG Tryd.prog x39 true .len #[49] 3 [false] [x45] w fun x46 w => BG Tryd.prog x39 true .lss 3 (.tmp 44) (.tmp 46) x44 x46 w fun x47 w => PK Tryd.prog x39 x47 (Value.bool false) w fun x48 w => CondK x48 (W z Tryd.prog 105 dispatcherref02_Parse_R7 (blkK 3 K) (up (up (up (up (up (up (up (up (up (up (up ρ 38 (ρ 4)) 39 x39) 40 x39) 41 x41) 42 x42) 43 x43) 44 x44) 45 x45) 46 x46) 47 x47) 48 x48) w) (K (.exit 2) (up (up (up (up (up (up (up (up (up (up (up ρ 38 (ρ 4)) 39 x39) 40 x39) 41 x41) 42 x42) 43 x43) 44 x44) 45 x45) 46 x46) 47 x47) 48 x48) w)
theorem dispatcherref02_Parse_L4_eq (z : At) (K : Exit → Sl → World → Prop) (ρ : Sl) (w : World) : sx z Tryd.prog 105 dispatcherref02_Parse_L4 K ρ w = dispatcherref02_Parse_L4_F z K ρ w := by kernel_rfl
theorem dispatcherref02_Parse_L4_ok : dstOk 105 dispatcherref02_Parse_L4 = true := by kernel_rfl
noncomputable def dispatcherref02_Parse_R5_FR (R : Value → World → Prop) (ρ : Sl) (w : World) : Prop :=
  VK Tryd.prog (Instr.build 54 [(0, (Value.int IntKind.i64 20))].toArray) w fun x56_1 w => VK Tryd.prog (Instr.alloc 54 true (.tuple #[])) w fun x8_1 w => UK Tryd.prog (Instr.storeAt 54 x8_1 x56_1) w fun _ w => CK Tryd.prog (Value.func (Fn.func 42) #[] #[]) [(ρ 4)] w fun x59_1 w => VK Tryd.prog (Op.unary UnOp.not x59_1) w fun x60_1 w => MG Tryd.prog x60_1 true (ρ 4) w fun x62_1 w => NG Tryd.prog x60_1 true x62_1 w fun x63_1 w => VG Tryd.prog x60_1 true (Instr.fieldAt 79 x63_1 2) w fun x64_1 w => VG Tryd.prog x60_1 true (Instr.loadAt 3 x64_1) w fun x65_1 w => MG Tryd.prog x60_1 true (ρ 0) w fun x66_1 w => IG Tryd.prog x60_1 true Builtin.len #[49] 3 [false] [x66_1] w fun x67_1 w => BG Tryd.prog x60_1 true BinOp.lss 3 (Operand.tmp 65) (Operand.tmp 67) x65_1 x67_1 w fun x68_1 w => PK Tryd.prog x60_1 x68_1 (Value.bool false) w fun x69_1 w => CondK x69_1 (W fn_ Tryd.prog 105 dispatcherref02_Parse_R8 (seqK (sx fn_ Tryd.prog 105 dispatcherref02_Parse_R9 (blkK 4 (seqK (sx fn_ Tryd.prog 105 dispatcherref02_Parse_R10 (retK Tryd.prog [ResultVar.cell 2 34, ResultVar.cell 3 54] R)) (retK Tryd.prog [ResultVar.cell 2 34, ResultVar.cell 3 54] R)))) (blkK 4 (seqK (sx fn_ Tryd.prog 105 dispatcherref02_Parse_R10 (retK Tryd.prog [ResultVar.cell 2 34, ResultVar.cell 3 54] R)) (retK Tryd.prog [ResultVar.cell 2 34, ResultVar.cell 3 54] R)))) (up (up (up (up (up (up (up (up (up (up (up (up (up (up (up ρ 56 x56_1) 8 x8_1) 58 (ρ 4)) 59 x59_1) 60 x60_1) 61 x60_1) 62 x62_1) 63 x63_1) 64 x64_1) 65 x65_1) 66 x66_1) 67 x67_1) 68 x68_1) 69 x69_1) 57 x69_1) w) (CK Tryd.prog (Value.func (Fn.func 42) #[] #[]) [(ρ 4)] w fun x92_1 w => VK Tryd.prog (Op.unary UnOp.not x92_1) w fun x93_1 w => CondK x93_1 (W fn_ Tryd.prog 105 dispatcherref02_Parse_R11 (seqK (sx fn_ Tryd.prog 105 dispatcherref02_Parse_R12 (blkK 4 (seqK (sx fn_ Tryd.prog 105 dispatcherref02_Parse_R10 (retK Tryd.prog [ResultVar.cell 2 34, ResultVar.cell 3 54] R)) (retK Tryd.prog [ResultVar.cell 2 34, ResultVar.cell 3 54] R)))) (blkK 4 (seqK (sx fn_ Tryd.prog 105 dispatcherref02_Parse_R10 (retK Tryd.prog [ResultVar.cell 2 34, ResultVar.cell 3 54] R)) (retK Tryd.prog [ResultVar.cell 2 34, ResultVar.cell 3 54] R)))) (up (up (up (up (up (up (up (up (up (up (up (up (up (up (up (up (up (up (up ρ 56 x56_1) 8 x8_1) 58 (ρ 4)) 59 x59_1) 60 x60_1) 61 x60_1) 62 x62_1) 63 x63_1) 64 x64_1) 65 x65_1) 66 x66_1) 67 x67_1) 68 x68_1) 69 x69_1) 57 x69_1) 91 (ρ 4)) 92 x92_1) 93 x93_1) 90 x93_1) w) (VK Tryd.prog (Instr.loadAt 34 (ρ 5)) w fun x97_1 w => CK Tryd.prog (Value.func (Fn.func 44) #[] #[]) [x97_1] w fun x98_1 w => BK Tryd.prog BinOp.gtr 3 (Operand.tmp 98) (Operand.const (Value.int IntKind.i64 32)) x98_1 (Value.int IntKind.i64 32) w fun x99_1 w => CondK x99_1 (VK Tryd.prog (Instr.fieldAt 54 x8_1 0) w fun x100_1 w => UK Tryd.prog (Instr.storeAt 38 x100_1 (Value.int IntKind.i64 4)) w fun _ w => W fn_ Tryd.prog 105 dispatcherref02_Parse_R13 (seqK (sx fn_ Tryd.prog 105 dispatcherref02_Parse_R14 (blkK 4 (seqK (sx fn_ Tryd.prog 105 dispatcherref02_Parse_R10 (retK Tryd.prog [ResultVar.cell 2 34, ResultVar.cell 3 54] R)) (retK Tryd.prog [ResultVar.cell 2 34, ResultVar.cell 3 54] R)))) (blkK 4 (seqK (sx fn_ Tryd.prog 105 dispatcherref02_Parse_R10 (retK Tryd.prog [ResultVar.cell 2 34, ResultVar.cell 3 54] R)) (retK Tryd.prog [ResultVar.cell 2 34, ResultVar.cell 3 54] R)))) (up (up (up (up (up (up (up (up (up (up (up (up (up (up (up (up (up (up (up (up (up (up (up (up ρ 56 x56_1) 8 x8_1) 58 (ρ 4)) 59 x59_1) 60 x60_1) 61 x60_1) 62 x62_1) 63 x63_1) 64 x64_1) 65 x65_1) 66 x66_1) 67 x67_1) 68 x68_1) 69 x69_1) 57 x69_1) 91 (ρ 4)) 92 x92_1) 93 x93_1) 90 x93_1) 97 x97_1) 98 x98_1) 99 x99_1) 96 x99_1) 100 x100_1) w) (VK Tryd.prog (Instr.loadAt 34 (ρ 5)) w fun x103_1 w => VK Tryd.prog (Instr.build 54 [].toArray) w fun x104_1 w => UK Tryd.prog (Instr.storeAt 34 (ρ 2) x103_1) w fun _ w => UK Tryd.prog (Instr.storeAt 54 (ρ 3) x104_1) w fun _ w => ∃ x2_1, (do loadVar 34 (← asAddr (ρ 2)) : Sem Value).run Tryd.prog w = .ok x2_1 w ∧ ∃ x3_1, (do loadVar 54 (← asAddr (ρ 3)) : Sem Value).run Tryd.prog w = .ok x3_1 w ∧ R (Value.tuple #[x2_1, x3_1]) w)))
theorem dispatcherref02_Parse_R5_eqR (R : Value → World → Prop) (ρ : Sl) (w : World) : sx fn_ Tryd.prog 105 dispatcherref02_Parse_R5 (retK Tryd.prog [ResultVar.cell 2 34, ResultVar.cell 3 54] R) ρ w = dispatcherref02_Parse_R5_FR R ρ w := by kernel_rfl
noncomputable def dispatcherref02_Parse_R6_F (z : At) (K : Exit → Sl → World → Prop) (ρ : Sl) (w : World) : Prop :=
  CK Tryd.prog (Value.func (Fn.func 41) #[] #[]) [(ρ 4), (Value.string { data := #[59] })] w fun x31 w => VK Tryd.prog (Instr.fieldAt 34 (ρ 5) 0) w fun x32 w => VK Tryd.prog (Instr.loadAt 32 x32) w fun x33 w => VK Tryd.prog (Instr.loadAt 43 (ρ 7)) w fun x34 w => VK Tryd.prog (Instr.buildSlice 32 1 [(0, x34)].toArray) w fun x35 w => IK Tryd.prog .append #[32, 32] 32 [false, false] [x33, x35] w fun x36 w => VK Tryd.prog (Instr.fieldAt 34 (ρ 5) 0) w fun x37 w => UK Tryd.prog (Instr.storeAt 32 x37 x36) w fun _ w => K .normal (up (up (up (up (up (up (up (up ρ 30 (ρ 4)) 31 x31) 32 x32) 33 x33) 34 x34) 35 x35) 36 x36) 37 x37) w
theorem dispatcherref02_Parse_R6_eq (z : At) (K : Exit → Sl → World → Prop) (ρ : Sl) (w : World) : sx z Tryd.prog 105 dispatcherref02_Parse_R6 K ρ w = dispatcherref02_Parse_R6_F z K ρ w := by kernel_rfl
noncomputable def dispatcherref02_Parse_R7_ops : Array Oper := opsOf dispatcherref02_Parse_R7
def dispatcherref02_Parse_R7_H (S : World → Prop) (K : Exit → Sl → World → Prop) (ρ : Sl) (w : World) : Prop :=
  HK Tryd.prog S (do pure (Next.value (← Instr.fieldAt 34 (ρ 5) 1))) fun x49 => (VK Tryd.prog (Instr.loadAt 23 x49) w fun x50 w => S w ∧ (CK Tryd.prog (Value.func (Fn.func 43) #[] #[]) [(ρ 4)] w fun x52 w => S w ∧ (VK Tryd.prog (Instr.buildSlice 23 1 [(0, x52)].toArray) w fun x53 w => S w ∧ (IK Tryd.prog Builtin.append #[23, 23] 23 [false, false] [x50, x53] w fun x54 w => S w ∧ (HK Tryd.prog S (do pure (Next.value (← Instr.fieldAt 34 (ρ 5) 1))) fun x55 => UK Tryd.prog (Instr.storeAt 23 x55 x54) w fun _ w => S w ∧ (K Exit.normal (up (up (up (up (up (up (up ρ 49 x49) 51 (ρ 4)) 50 x50) 52 x52) 53 x53) 54 x54) 55 x55) w)))))) ∧ (CK Tryd.prog (Value.func (Fn.func 43) #[] #[]) [(ρ 4)] w fun x52_1 w => S w ∧ ((VK Tryd.prog (Instr.loadAt 23 x49) w fun x50_1 w => S w ∧ (VK Tryd.prog (Instr.buildSlice 23 1 [(0, x52_1)].toArray) w fun x53_1 w => S w ∧ (IK Tryd.prog Builtin.append #[23, 23] 23 [false, false] [x50_1, x53_1] w fun x54_1 w => S w ∧ (HK Tryd.prog S (do pure (Next.value (← Instr.fieldAt 34 (ρ 5) 1))) fun x55_1 => UK Tryd.prog (Instr.storeAt 23 x55_1 x54_1) w fun _ w => S w ∧ (K Exit.normal (up (up (up (up (up (up (up ρ 49 x49) 51 (ρ 4)) 52 x52_1) 50 x50_1) 53 x53_1) 54 x54_1) 55 x55_1) w))))) ∧ (VK Tryd.prog (Instr.buildSlice 23 1 [(0, x52_1)].toArray) w fun x53_2 w => S w ∧ (VK Tryd.prog (Instr.loadAt 23 x49) w fun x50_2 w => S w ∧ (IK Tryd.prog Builtin.append #[23, 23] 23 [false, false] [x50_2, x53_2] w fun x54_2 w => S w ∧ (HK Tryd.prog S (do pure (Next.value (← Instr.fieldAt 34 (ρ 5) 1))) fun x55_2 => UK Tryd.prog (Instr.storeAt 23 x55_2 x54_2) w fun _ w => S w ∧ (K Exit.normal (up (up (up (up (up (up (up ρ 49 x49) 51 (ρ 4)) 52 x52_1) 53 x53_2) 50 x50_2) 54 x54_2) 55 x55_2) w)))))))
theorem dispatcherref02_Parse_R7_held {D : List Deferred} (S : World → Prop) {K : Exit → Sl → World → Prop} {ρ : Sl} {w : World} (hS : S { w with drawn := w.drawn + 1 }) (h : dispatcherref02_Parse_R7_H S K ρ { w with drawn := w.drawn + 1 }) : W ⟨none, D⟩ Tryd.prog 105 dispatcherref02_Parse_R7 K ρ w := by
  have e : dispatcherref02_Parse_R7 = .region (idOf dispatcherref02_Parse_R7) dispatcherref02_Parse_R7_ops true := by kernel_rfl
  have q : sxp Tryd.prog S dispatcherref02_Parse_R7_ops (K .normal) (Pl.take 0 (Pl.take 2 (Pl.two 1 3 (Pl.only 3 (Pl.only 4 (Pl.only 5 (Pl.take 6 (Pl.only 7 Pl.done))))) (Pl.two 1 4 (Pl.only 4 (Pl.only 5 (Pl.take 6 (Pl.only 7 Pl.done)))) (Pl.only 1 (Pl.only 5 (Pl.take 6 (Pl.only 7 Pl.done)))))))) ρ { w with drawn := w.drawn + 1 } = dispatcherref02_Parse_R7_H S K ρ { w with drawn := w.drawn + 1 } := by kernel_rfl
  rw [e]
  exact W_plan S (Pl.take 0 (Pl.take 2 (Pl.two 1 3 (Pl.only 3 (Pl.only 4 (Pl.only 5 (Pl.take 6 (Pl.only 7 Pl.done))))) (Pl.two 1 4 (Pl.only 4 (Pl.only 5 (Pl.take 6 (Pl.only 7 Pl.done)))) (Pl.only 1 (Pl.only 5 (Pl.take 6 (Pl.only 7 Pl.done)))))))) (by kernel_rfl) (by kernel_rfl) (by kernel_rfl) (by kernel_rfl) hS (Eq.mpr q h)
noncomputable def dispatcherref02_Parse_F (a0 : Value) (w : World) (R : Value → World → Prop) : Prop :=
  VK Tryd.prog (Instr.alloc 34 true (.tuple #[])) w fun x2 w => VK Tryd.prog (Instr.alloc 54 true (.tuple #[])) w fun x3 w => VK Tryd.prog (Instr.build 79 [(0, a0), (2, (Value.int .i64 (-1)))].toArray) w fun x10 w => VK Tryd.prog (Instr.box 79 x10) w fun x11 w => VK Tryd.prog (Instr.alloc 34 true (.tuple #[])) w fun x5 w => W fn_ Tryd.prog 105 (Code.loop dispatcherref02_Parse_L0) (blkK 0 (seqK (sx fn_ Tryd.prog 105 dispatcherref02_Parse_R1 (retK Tryd.prog [ResultVar.cell 2 34, ResultVar.cell 3 54] R)) (retK Tryd.prog [ResultVar.cell 2 34, ResultVar.cell 3 54] R))) (up (up (up (up (up (up (up (rho0 [a0]) 2 x2) 3 x3) 9 a0) 10 x10) 11 x11) 4 x11) 5 x5) w
theorem dispatcherref02_Parse_eq (a0 : Value) (w : World) (R : Value → World → Prop) : sx fn_ Tryd.prog 105 dispatcherref02_Parse_b (retK Tryd.prog Tryd.f20.results.toList R) (rho0 [a0]) w = dispatcherref02_Parse_F a0 w R := by kernel_rfl
theorem dispatcherref02_Parse_calls {a0 : Value} {w : World} {R : Value → World → Prop} (h : dispatcherref02_Parse_F a0 w R) : Calls Tryd.prog 20 #[a0] w fun e w' => ∃ v, e = .returned v ∧ R v w' :=
  Go.X.calls_of_sx (n := 105) (c := dispatcherref02_Parse_b) Tryd.func20 (by kernel_rfl) (by kernel_rfl) (Nat.le_of_ble_eq_true rfl) (by kernel_rfl) (Eq.mpr (dispatcherref02_Parse_eq a0 w R) h)
noncomputable def dispatcherref01_end_b : Code := (Tryd.f35.body).getD .skip
noncomputable def dispatcherref01_end_R0 : Code := cAt [1, 1, 1] dispatcherref01_end_b
noncomputable def dispatcherref01_end_L1 : Code := cAt [1, 1, 0, 0, 1, 0, 0, 0] dispatcherref01_end_b
noncomputable def dispatcherref01_end_L2 : Code := cAt [1, 1, 0, 0, 1, 1, 1, 0, 0, 0] dispatcherref01_end_b
noncomputable def dispatcherref01_end_R0_F (z : At) (K : Exit → Sl → World → Prop) (ρ : Sl) (w : World) : Prop :=
  K .ret (up (up ρ 69 (ρ 5)) 4 (ρ 5)) w
theorem dispatcherref01_end_R0_eq (z : At) (K : Exit → Sl → World → Prop) (ρ : Sl) (w : World) : sx z Tryd.prog 70 dispatcherref01_end_R0 K ρ w = dispatcherref01_end_R0_F z K ρ w := by kernel_rfl
noncomputable def dispatcherref01_end_L1_F (z : At) (K : Exit → Sl → World → Prop) (ρ : Sl) (w : World) : Prop :=
  IK Tryd.prog .len #[52] 3 [false] [(ρ 0)] w fun x16 w => BK Tryd.prog .lss 3 (.tmp 14) (.tmp 16) (ρ 5) x16 w fun x17 w => MG Tryd.prog x17 true (ρ 0) w fun x19 w => MG Tryd.prog x17 true (ρ 5) w fun x20 w => VG Tryd.prog x17 true (Instr.indexAt 52 x19 x20) w fun x21 w => VG Tryd.prog x17 true (Instr.loadAt 5 x21) w fun x22 w => CG Tryd.prog x17 true (Value.func (Fn.func 61) #[] #[]) [x22] w fun x23 w => MG Tryd.prog x17 true x23 w fun x24 w => MG Tryd.prog x24 false (ρ 0) w fun x25 w => MG Tryd.prog x24 false (ρ 5) w fun x26 w => VG Tryd.prog x24 false (Instr.indexAt 52 x25 x26) w fun x27 w => VG Tryd.prog x24 false (Instr.loadAt 5 x27) w fun x28 w => CG Tryd.prog x24 false (Value.func (Fn.func 62) #[] #[]) [x28] w fun x29 w => PG Tryd.prog x17 true x24 (Value.bool true) x29 w fun x30 w => PK Tryd.prog x17 x30 (Value.bool false) w fun x31 w => CondK x31 (BK Tryd.prog .add 3 (.tmp 32) (.const (Value.int .i64 1)) (ρ 5) (Value.int .i64 1) w fun x33 w => K .normal (up (up (up (up (up (up (up (up (up (up (up (up (up (up (up (up (up (up (up (up (up ρ 14 (ρ 5)) 15 (ρ 0)) 16 x16) 17 x17) 18 x17) 19 x19) 20 x20) 21 x21) 22 x22) 23 x23) 24 x24) 25 x25) 26 x26) 27 x27) 28 x28) 29 x29) 30 x30) 31 x31) 32 (ρ 5)) 33 x33) 5 x33) w) (K (.exit 1) (up (up (up (up (up (up (up (up (up (up (up (up (up (up (up (up (up (up ρ 14 (ρ 5)) 15 (ρ 0)) 16 x16) 17 x17) 18 x17) 19 x19) 20 x20) 21 x21) 22 x22) 23 x23) 24 x24) 25 x25) 26 x26) 27 x27) 28 x28) 29 x29) 30 x30) 31 x31) w)
theorem dispatcherref01_end_L1_eq (z : At) (K : Exit → Sl → World → Prop) (ρ : Sl) (w : World) : sx z Tryd.prog 70 dispatcherref01_end_L1 K ρ w = dispatcherref01_end_L1_F z K ρ w := by kernel_rfl
theorem dispatcherref01_end_L1_ok : dstOk 70 dispatcherref01_end_L1 = true := by kernel_rfl
noncomputable def dispatcherref01_end_L2_F (z : At) (K : Exit → Sl → World → Prop) (ρ : Sl) (w : World) : Prop :=
  IK Tryd.prog .len #[52] 3 [false] [(ρ 0)] w fun x42 w => BK Tryd.prog .lss 3 (.tmp 40) (.tmp 42) (ρ 5) x42 w fun x43 w => MG Tryd.prog x43 true (ρ 0) w fun x45 w => MG Tryd.prog x43 true (ρ 5) w fun x46 w => VG Tryd.prog x43 true (Instr.indexAt 52 x45 x46) w fun x47 w => VG Tryd.prog x43 true (Instr.loadAt 5 x47) w fun x48 w => CG Tryd.prog x43 true (Value.func (Fn.func 62) #[] #[]) [x48] w fun x49 w => PK Tryd.prog x43 x49 (Value.bool false) w fun x50 w => CondK x50 (BK Tryd.prog .add 3 (.tmp 51) (.const (Value.int .i64 1)) (ρ 5) (Value.int .i64 1) w fun x52 w => K .normal (up (up (up (up (up (up (up (up (up (up (up (up (up (up ρ 40 (ρ 5)) 41 (ρ 0)) 42 x42) 43 x43) 44 x43) 45 x45) 46 x46) 47 x47) 48 x48) 49 x49) 50 x50) 51 (ρ 5)) 52 x52) 5 x52) w) (K (.exit 3) (up (up (up (up (up (up (up (up (up (up (up ρ 40 (ρ 5)) 41 (ρ 0)) 42 x42) 43 x43) 44 x43) 45 x45) 46 x46) 47 x47) 48 x48) 49 x49) 50 x50) w)
theorem dispatcherref01_end_L2_eq (z : At) (K : Exit → Sl → World → Prop) (ρ : Sl) (w : World) : sx z Tryd.prog 70 dispatcherref01_end_L2 K ρ w = dispatcherref01_end_L2_F z K ρ w := by kernel_rfl
theorem dispatcherref01_end_L2_ok : dstOk 70 dispatcherref01_end_L2 = true := by kernel_rfl
noncomputable def dispatcherref01_end_F (a0 a1 : Value) (w : World) (R : Value → World → Prop) : Prop :=
  BK Tryd.prog .add 3 (.tmp 6) (.const (Value.int .i64 1)) a1 (Value.int .i64 1) w fun x7 w => VK Tryd.prog (Instr.indexAt 52 a0 a1) w fun x11 w => VK Tryd.prog (Instr.loadAt 5 x11) w fun x12 w => CK Tryd.prog (Value.func (Fn.func 61) #[] #[]) [x12] w fun x13 w => CondK x13 (W fn_ Tryd.prog 70 (Code.loop dispatcherref01_end_L1) (blkK 1 (blkK 0 (seqK (sx fn_ Tryd.prog 70 dispatcherref01_end_R0 (retK Tryd.prog [ResultVar.tmp 4] R)) (retK Tryd.prog [ResultVar.tmp 4] R)))) (up (up (up (up (up (up (up (up (up (up (rho0 [a0, a1]) 4 (Value.int .i64 0)) 6 a1) 7 x7) 5 x7) 9 a0) 10 a1) 11 x11) 12 x12) 13 x13) 8 x13) w) (VK Tryd.prog (Instr.indexAt 52 a0 a1) w fun x37 w => VK Tryd.prog (Instr.loadAt 5 x37) w fun x38 w => CK Tryd.prog (Value.func (Fn.func 62) #[] #[]) [x38] w fun x39 w => CondK x39 (W fn_ Tryd.prog 70 (Code.loop dispatcherref01_end_L2) (blkK 3 (blkK 0 (seqK (sx fn_ Tryd.prog 70 dispatcherref01_end_R0 (retK Tryd.prog [ResultVar.tmp 4] R)) (retK Tryd.prog [ResultVar.tmp 4] R)))) (up (up (up (up (up (up (up (up (up (up (up (up (up (up (up (up (rho0 [a0, a1]) 4 (Value.int .i64 0)) 6 a1) 7 x7) 5 x7) 9 a0) 10 a1) 11 x11) 12 x12) 13 x13) 8 x13) 35 a0) 36 a1) 37 x37) 38 x38) 39 x39) 34 x39) w) (IK Tryd.prog .len #[52] 3 [false] [a0] w fun x56 w => BK Tryd.prog .lss 3 (.tmp 54) (.tmp 56) x7 x56 w fun x57 w => MG Tryd.prog x57 true a0 w fun x59 w => MG Tryd.prog x57 true a1 w fun x60 w => MG Tryd.prog x57 true x7 w fun x61 w => BG Tryd.prog x57 true .add 3 (.tmp 61) (.const (Value.int .i64 1)) x61 (Value.int .i64 1) w fun x62 w => VG Tryd.prog x57 true (Instr.sliceAt 52 x59 (some x60) (some x62) none) w fun x63 w => VG Tryd.prog x57 true (convert 52 9 x63) w fun x64 w => CG Tryd.prog x57 true (Value.func (Fn.func 63) #[] #[]) [x64] w fun x65 w => PK Tryd.prog x57 x65 (Value.bool false) w fun x66 w => CondK x66 (BK Tryd.prog .add 3 (.tmp 67) (.const (Value.int .i64 1)) x7 (Value.int .i64 1) w fun x68 w => sx fn_ Tryd.prog 70 dispatcherref01_end_R0 (retK Tryd.prog [ResultVar.tmp 4] R) (up (up (up (up (up (up (up (up (up (up (up (up (up (up (up (up (up (up (up (up (up (up (up (up (up (up (up (up (up (up (up (up (up (rho0 [a0, a1]) 4 (Value.int .i64 0)) 6 a1) 7 x7) 5 x7) 9 a0) 10 a1) 11 x11) 12 x12) 13 x13) 8 x13) 35 a0) 36 a1) 37 x37) 38 x38) 39 x39) 34 x39) 54 x7) 55 a0) 56 x56) 57 x57) 58 x57) 59 x59) 60 x60) 61 x61) 62 x62) 63 x63) 64 x64) 65 x65) 66 x66) 53 x66) 67 x7) 68 x68) 5 x68) w) (sx fn_ Tryd.prog 70 dispatcherref01_end_R0 (retK Tryd.prog [ResultVar.tmp 4] R) (up (up (up (up (up (up (up (up (up (up (up (up (up (up (up (up (up (up (up (up (up (up (up (up (up (up (up (up (up (up (rho0 [a0, a1]) 4 (Value.int .i64 0)) 6 a1) 7 x7) 5 x7) 9 a0) 10 a1) 11 x11) 12 x12) 13 x13) 8 x13) 35 a0) 36 a1) 37 x37) 38 x38) 39 x39) 34 x39) 54 x7) 55 a0) 56 x56) 57 x57) 58 x57) 59 x59) 60 x60) 61 x61) 62 x62) 63 x63) 64 x64) 65 x65) 66 x66) 53 x66) w)))
theorem dispatcherref01_end_eq (a0 a1 : Value) (w : World) (R : Value → World → Prop) : sx fn_ Tryd.prog 70 dispatcherref01_end_b (retK Tryd.prog Tryd.f35.results.toList R) (rho0 [a0, a1]) w = dispatcherref01_end_F a0 a1 w R := by kernel_rfl
theorem dispatcherref01_end_calls {a0 a1 : Value} {w : World} {R : Value → World → Prop} (h : dispatcherref01_end_F a0 a1 w R) : Calls Tryd.prog 35 #[a0, a1] w fun e w' => ∃ v, e = .returned v ∧ R v w' :=
  Go.X.calls_of_sx (n := 70) (c := dispatcherref01_end_b) Tryd.func35 (by kernel_rfl) (by kernel_rfl) (Nat.le_of_ble_eq_true rfl) (by kernel_rfl) (Eq.mpr (dispatcherref01_end_eq a0 a1 w R) h)
noncomputable def dispatcherref01_Of_b : Code := (Tryd.f36.body).getD .skip
noncomputable def dispatcherref01_Of_R0 : Code := cAt [1, 1, 1, 1] dispatcherref01_Of_b
noncomputable def dispatcherref01_Of_R0_F (z : At) (K : Exit → Sl → World → Prop) (ρ : Sl) (w : World) : Prop :=
  VK Tryd.prog (Instr.loadAt 75 (ρ 3)) w fun x30 w => UK Tryd.prog (Instr.storeAt 75 (ρ 2) x30) w fun _ w => K .ret (up ρ 30 x30) w
theorem dispatcherref01_Of_R0_eq (z : At) (K : Exit → Sl → World → Prop) (ρ : Sl) (w : World) : sx z Tryd.prog 31 dispatcherref01_Of_R0 K ρ w = dispatcherref01_Of_R0_F z K ρ w := by kernel_rfl
noncomputable def dispatcherref01_Of_F (a0 : Value) (w : World) (R : Value → World → Prop) : Prop :=
  VK Tryd.prog (Instr.alloc 75 true (.tuple #[])) w fun x2 w => VK Tryd.prog (Instr.build 75 [(1, a0)].toArray) w fun x7 w => VK Tryd.prog (Instr.alloc 75 true (.tuple #[])) w fun x3 w => UK Tryd.prog (Instr.storeAt 75 x3 x7) w fun _ w => CK Tryd.prog (Value.func (Fn.func 64) #[] #[]) [a0] w fun x10 w => VK Tryd.prog (Instr.extract x10 0) w fun x11 w => VK Tryd.prog (Instr.extract x10 1) w fun x12 w => CK Tryd.prog (Value.func (Fn.func 65) #[] #[]) [a0] w fun x15 w => CondK x15 (VK Tryd.prog (Instr.fieldAt 75 x3 0) w fun x16 w => UK Tryd.prog (Instr.storeAt 5 x16 (Value.int .u8 3)) w fun _ w => sx fn_ Tryd.prog 31 dispatcherref01_Of_R0 (retK Tryd.prog [ResultVar.cell 2 75] R) (up (up (up (up (up (up (up (up (up (up (up (up (up (up (up (rho0 [a0]) 2 x2) 6 a0) 7 x7) 3 x3) 9 a0) 10 x10) 8 x10) 11 x11) 12 x12) 4 x11) 5 x12) 14 a0) 15 x15) 13 x15) 16 x16) w) (CK Tryd.prog (Value.func (Fn.func 66) #[] #[]) [a0] w fun x19 w => CondK x19 (VK Tryd.prog (Instr.fieldAt 75 x3 0) w fun x20 w => UK Tryd.prog (Instr.storeAt 5 x20 (Value.int .u8 1)) w fun _ w => sx fn_ Tryd.prog 31 dispatcherref01_Of_R0 (retK Tryd.prog [ResultVar.cell 2 75] R) (up (up (up (up (up (up (up (up (up (up (up (up (up (up (up (up (up (up (rho0 [a0]) 2 x2) 6 a0) 7 x7) 3 x3) 9 a0) 10 x10) 8 x10) 11 x11) 12 x12) 4 x11) 5 x12) 14 a0) 15 x15) 13 x15) 18 a0) 19 x19) 17 x19) 20 x20) w) (CondK x12 (VK Tryd.prog (Instr.fieldAt 75 x3 0) w fun x23 w => UK Tryd.prog (Instr.storeAt 5 x23 (Value.int .u8 2)) w fun _ w => VK Tryd.prog (Instr.fieldAt 75 x3 2) w fun x25 w => UK Tryd.prog (Instr.storeAt 2 x25 x11) w fun _ w => sx fn_ Tryd.prog 31 dispatcherref01_Of_R0 (retK Tryd.prog [ResultVar.cell 2 75] R) (up (up (up (up (up (up (up (up (up (up (up (up (up (up (up (up (up (up (up (up (up (up (rho0 [a0]) 2 x2) 6 a0) 7 x7) 3 x3) 9 a0) 10 x10) 8 x10) 11 x11) 12 x12) 4 x11) 5 x12) 14 a0) 15 x15) 13 x15) 18 a0) 19 x19) 17 x19) 22 x12) 21 x12) 23 x23) 24 x11) 25 x25) w) (CK Tryd.prog (Value.func (Fn.func 63) #[] #[]) [a0] w fun x28 w => CondK x28 (VK Tryd.prog (Instr.fieldAt 75 x3 0) w fun x29 w => UK Tryd.prog (Instr.storeAt 5 x29 (Value.int .u8 4)) w fun _ w => sx fn_ Tryd.prog 31 dispatcherref01_Of_R0 (retK Tryd.prog [ResultVar.cell 2 75] R) (up (up (up (up (up (up (up (up (up (up (up (up (up (up (up (up (up (up (up (up (up (up (up (rho0 [a0]) 2 x2) 6 a0) 7 x7) 3 x3) 9 a0) 10 x10) 8 x10) 11 x11) 12 x12) 4 x11) 5 x12) 14 a0) 15 x15) 13 x15) 18 a0) 19 x19) 17 x19) 22 x12) 21 x12) 27 a0) 28 x28) 26 x28) 29 x29) w) (sx fn_ Tryd.prog 31 dispatcherref01_Of_R0 (retK Tryd.prog [ResultVar.cell 2 75] R) (up (up (up (up (up (up (up (up (up (up (up (up (up (up (up (up (up (up (up (up (up (up (rho0 [a0]) 2 x2) 6 a0) 7 x7) 3 x3) 9 a0) 10 x10) 8 x10) 11 x11) 12 x12) 4 x11) 5 x12) 14 a0) 15 x15) 13 x15) 18 a0) 19 x19) 17 x19) 22 x12) 21 x12) 27 a0) 28 x28) 26 x28) w))))
theorem dispatcherref01_Of_eq (a0 : Value) (w : World) (R : Value → World → Prop) : sx fn_ Tryd.prog 31 dispatcherref01_Of_b (retK Tryd.prog Tryd.f36.results.toList R) (rho0 [a0]) w = dispatcherref01_Of_F a0 w R := by kernel_rfl
theorem dispatcherref01_Of_calls {a0 : Value} {w : World} {R : Value → World → Prop} (h : dispatcherref01_Of_F a0 w R) : Calls Tryd.prog 36 #[a0] w fun e w' => ∃ v, e = .returned v ∧ R v w' :=
  Go.X.calls_of_sx (n := 31) (c := dispatcherref01_Of_b) Tryd.func36 (by kernel_rfl) (by kernel_rfl) (Nat.le_of_ble_eq_true rfl) (by kernel_rfl) (Eq.mpr (dispatcherref01_Of_eq a0 w R) h)
noncomputable def dispatcherref02_cursor_may_b : Code := (Tryd.f37.body).getD .skip
noncomputable def dispatcherref02_cursor_may_F (a0 a1 : Value) (w : World) (R : Value → World → Prop) : Prop :=
  CK Tryd.prog (Value.func (Fn.func 38) #[] #[]) [a0] w fun x7 w => VK Tryd.prog (Instr.alloc 75 true (.tuple #[])) w fun x5 w => UK Tryd.prog (Instr.storeAt 75 x5 x7) w fun _ w => VK Tryd.prog (Instr.fieldAt 75 x5 0) w fun x8 w => VK Tryd.prog (Instr.loadAt 5 x8) w fun x9 w => BK Tryd.prog .eql 5 (.tmp 9) (.const (Value.int .u8 0)) x9 (Value.int .u8 0) w fun x10 w => VG Tryd.prog x10 false (Instr.fieldAt 75 x5 1) w fun x12 w => VG Tryd.prog x10 false (Instr.loadAt 9 x12) w fun x13 w => MG Tryd.prog x10 false a1 w fun x14 w => BG Tryd.prog x10 false .neq 9 (.tmp 13) (.tmp 14) x13 x14 w fun x15 w => PK Tryd.prog x10 (Value.bool true) x15 w fun x16 w => CondK x16 (R (Value.bool false) w) (NK Tryd.prog a0 w fun x18 w => VK Tryd.prog (Instr.fieldAt 79 x18 1) w fun x19 w => VK Tryd.prog (Instr.loadAt 3 x19) w fun x20 w => BK Tryd.prog .add 3 (.tmp 20) (.const (Value.int .i64 1)) x20 (Value.int .i64 1) w fun x21 w => NK Tryd.prog a0 w fun x22 w => VK Tryd.prog (Instr.fieldAt 79 x22 1) w fun x23 w => UK Tryd.prog (Instr.storeAt 3 x23 x21) w fun _ w => R (Value.bool true) w)
theorem dispatcherref02_cursor_may_eq (a0 a1 : Value) (w : World) (R : Value → World → Prop) : sx fn_ Tryd.prog 24 dispatcherref02_cursor_may_b (retK Tryd.prog Tryd.f37.results.toList R) (rho0 [a0, a1]) w = dispatcherref02_cursor_may_F a0 a1 w R := by kernel_rfl
theorem dispatcherref02_cursor_may_calls {a0 a1 : Value} {w : World} {R : Value → World → Prop} (h : dispatcherref02_cursor_may_F a0 a1 w R) : Calls Tryd.prog 37 #[a0, a1] w fun e w' => ∃ v, e = .returned v ∧ R v w' :=
  Go.X.calls_of_sx (n := 24) (c := dispatcherref02_cursor_may_b) Tryd.func37 (by kernel_rfl) (by kernel_rfl) (Nat.le_of_ble_eq_true rfl) (by kernel_rfl) (Eq.mpr (dispatcherref02_cursor_may_eq a0 a1 w R) h)
noncomputable def dispatcherref02_cursor_next_b : Code := (Tryd.f38.body).getD .skip
noncomputable def dispatcherref02_cursor_next_R0 : Code := cAt [1, 1, 0, 0] dispatcherref02_cursor_next_b
noncomputable def dispatcherref02_cursor_next_R1 : Code := cAt [1, 1, 0, 1] dispatcherref02_cursor_next_b
noncomputable def dispatcherref02_cursor_next_R2 : Code := cAt [1, 1, 1] dispatcherref02_cursor_next_b
noncomputable def dispatcherref02_cursor_next_R3 : Code := cAt [1, 1, 1, 0] dispatcherref02_cursor_next_b
noncomputable def dispatcherref02_cursor_next_R4 : Code := cAt [1, 1, 1, 1] dispatcherref02_cursor_next_b
noncomputable def dispatcherref02_cursor_next_R0_ops : Array Oper := opsOf dispatcherref02_cursor_next_R0
def dispatcherref02_cursor_next_R0_Q (C : World → Prop) (K : Exit → Sl → World → Prop) (ρ : Sl) : Prop :=
  QK Tryd.prog C (do let d ← Deferred.ofValue (Value.func (Fn.func 42) #[] #[]) [(ρ 0)].toArray; invoke d.target d.args) fun x8 => QK Tryd.prog C (do pure (Next.value (← Op.unary UnOp.not x8))) fun x9 => QG Tryd.prog C x9 false  (pure (Next.value (ρ 0))) fun x11 => QG Tryd.prog C x9 false  (nilCk x11) fun x12 => QG Tryd.prog C x9 false  (do pure (Next.value (← Instr.fieldAt 79 x12 1))) fun x13 => QG Tryd.prog C x9 false  (do pure (Next.value (← Instr.loadAt 3 x13))) fun x14 => QG Tryd.prog C x9 false  (pure (Next.value (ρ 0))) fun x15 => QG Tryd.prog C x9 false  (nilCk x15) fun x16 => QG Tryd.prog C x9 false  (do pure (Next.value (← Instr.fieldAt 79 x16 0))) fun x17 => QG Tryd.prog C x9 false  (do pure (Next.value (← Instr.loadAt 49 x17))) fun x18 => QG Tryd.prog C x9 false  (builtin Builtin.len #[49] 3 [false].toArray [x18].toArray) fun x19 => QG Tryd.prog C x9 false  (do pure (Next.value (← (do eqGuard BinOp.geq 3 (Operand.tmp 14) (Operand.tmp 19) x14 x19; binOp BinOp.geq 3 x14 x19)))) fun x20 => QK Tryd.prog C (do pure (Next.value (if ← asBool x9 then (Value.bool true) else x20))) fun x21 => ∀ w', C w' → K Exit.normal (up (up (up (up (up (up (up (up (up (up (up (up (up (up (up ρ 7 (ρ 0)) 8 x8) 9 x9) 10 x9) 11 x11) 12 x12) 13 x13) 14 x14) 15 x15) 16 x16) 17 x17) 18 x18) 19 x19) 20 x20) 21 x21) w'
theorem dispatcherref02_cursor_next_R0_quiet {D : List Deferred} (C : World → Prop) {K : Exit → Sl → World → Prop} {ρ : Sl} {w : World} (hC : C { w with drawn := w.drawn + 1 }) (h : dispatcherref02_cursor_next_R0_Q C K ρ) : W ⟨none, D⟩ Tryd.prog 50 dispatcherref02_cursor_next_R0 K ρ w := by
  have e : dispatcherref02_cursor_next_R0 = .region (idOf dispatcherref02_cursor_next_R0) dispatcherref02_cursor_next_R0_ops true := by kernel_rfl
  have q : sxq Tryd.prog C dispatcherref02_cursor_next_R0_ops (fun ρ' => ∀ w', C w' → K .normal ρ' w') dispatcherref02_cursor_next_R0_ops.toList ρ = dispatcherref02_cursor_next_R0_Q C K ρ := by kernel_rfl
  rw [e]
  exact W_quiet C (by kernel_rfl) (by kernel_rfl) (by kernel_rfl) hC (Eq.mpr q h)
noncomputable def dispatcherref02_cursor_next_R1_F (z : At) (K : Exit → Sl → World → Prop) (ρ : Sl) (w : World) : Prop :=
  CondK (ρ 21) (VK Tryd.prog (Instr.loadAt 75 (ρ 3)) w fun x22 w => UK Tryd.prog (Instr.storeAt 75 (ρ 2) x22) w fun _ w => K .ret (up ρ 22 x22) w) (K .normal ρ w)
theorem dispatcherref02_cursor_next_R1_eq (z : At) (K : Exit → Sl → World → Prop) (ρ : Sl) (w : World) : sx z Tryd.prog 50 dispatcherref02_cursor_next_R1 K ρ w = dispatcherref02_cursor_next_R1_F z K ρ w := by kernel_rfl
noncomputable def dispatcherref02_cursor_next_R2_F (z : At) (K : Exit → Sl → World → Prop) (ρ : Sl) (w : World) : Prop :=
  W z Tryd.prog 50 dispatcherref02_cursor_next_R3 (seqK (sx z Tryd.prog 50 dispatcherref02_cursor_next_R4 K) K) ρ w
theorem dispatcherref02_cursor_next_R2_eq (z : At) (K : Exit → Sl → World → Prop) (ρ : Sl) (w : World) : sx z Tryd.prog 50 dispatcherref02_cursor_next_R2 K ρ w = dispatcherref02_cursor_next_R2_F z K ρ w := by kernel_rfl
noncomputable def dispatcherref02_cursor_next_R3_ops : Array Oper := opsOf dispatcherref02_cursor_next_R3
def dispatcherref02_cursor_next_R3_H (S : World → Prop) (K : Exit → Sl → World → Prop) (ρ : Sl) (w : World) : Prop :=
  HK Tryd.prog S (nilCk (ρ 0)) fun x24 => HK Tryd.prog S (do pure (Next.value (← Instr.fieldAt 79 x24 0))) fun x25 => HK Tryd.prog S (do pure (Next.value (← Instr.loadAt 49 x25))) fun x26 => HK Tryd.prog S (nilCk (ρ 0)) fun x28 => HK Tryd.prog S (do pure (Next.value (← Instr.fieldAt 79 x28 1))) fun x29 => HK Tryd.prog S (do pure (Next.value (← Instr.loadAt 3 x29))) fun x30 => HK Tryd.prog S (do pure (Next.value (← Instr.indexAt 49 x26 x30))) fun x31 => HK Tryd.prog S (do pure (Next.value (← Instr.loadAt 75 x31))) fun x32 => VK Tryd.prog (Instr.alloc 75 true (.tuple #[])) w fun x4 w => S w ∧ (UK Tryd.prog (Instr.storeAt 75 x4 x32) w fun _ w => S w ∧ (K Exit.normal (up (up (up (up (up (up (up (up (up (up (up ρ 23 (ρ 0)) 24 x24) 25 x25) 26 x26) 27 (ρ 0)) 28 x28) 29 x29) 30 x30) 31 x31) 32 x32) 4 x4) w))
theorem dispatcherref02_cursor_next_R3_held {D : List Deferred} (S : World → Prop) {K : Exit → Sl → World → Prop} {ρ : Sl} {w : World} (hS : S { w with drawn := w.drawn + 1 }) (h : dispatcherref02_cursor_next_R3_H S K ρ { w with drawn := w.drawn + 1 }) : W ⟨none, D⟩ Tryd.prog 50 dispatcherref02_cursor_next_R3 K ρ w := by
  have e : dispatcherref02_cursor_next_R3 = .region (idOf dispatcherref02_cursor_next_R3) dispatcherref02_cursor_next_R3_ops true := by kernel_rfl
  have q : sxh Tryd.prog S dispatcherref02_cursor_next_R3_ops (K .normal) [(0, true), (1, true), (2, true), (3, true), (4, true), (5, true), (6, true), (7, true), (8, true), (9, true), (10, false), (11, false)] ρ { w with drawn := w.drawn + 1 } = dispatcherref02_cursor_next_R3_H S K ρ { w with drawn := w.drawn + 1 } := by kernel_rfl
  rw [e]
  exact W_held S [(0, true), (1, true), (2, true), (3, true), (4, true), (5, true), (6, true), (7, true), (8, true), (9, true), (10, false), (11, false)] (by kernel_rfl) (by kernel_rfl) (by kernel_rfl) (by kernel_rfl) hS (Eq.mpr q h)
noncomputable def dispatcherref02_cursor_next_R4_F (z : At) (K : Exit → Sl → World → Prop) (ρ : Sl) (w : World) : Prop :=
  VK Tryd.prog (Instr.fieldAt 75 (ρ 4) 1) w fun x33 w => VK Tryd.prog (Instr.loadAt 9 x33) w fun x34 w => CK Tryd.prog (Value.func (Fn.func 36) #[] #[]) [x34] w fun x35 w => VK Tryd.prog (Instr.alloc 75 true (.tuple #[])) w fun x5 w => UK Tryd.prog (Instr.storeAt 75 x5 x35) w fun _ w => VK Tryd.prog (Instr.fieldAt 75 x5 0) w fun x36 w => VK Tryd.prog (Instr.loadAt 5 x36) w fun x37 w => VK Tryd.prog (Instr.fieldAt 75 (ρ 4) 0) w fun x38 w => VK Tryd.prog (Instr.loadAt 5 x38) w fun x39 w => BK Tryd.prog .neq 5 (.tmp 37) (.tmp 39) x37 x39 w fun x40 w => VG Tryd.prog x40 false (Instr.fieldAt 75 x5 2) w fun x42 w => VG Tryd.prog x40 false (Instr.loadAt 2 x42) w fun x43 w => VG Tryd.prog x40 false (Instr.fieldAt 75 (ρ 4) 2) w fun x44 w => VG Tryd.prog x40 false (Instr.loadAt 2 x44) w fun x45 w => BG Tryd.prog x40 false .neq 2 (.tmp 43) (.tmp 45) x43 x45 w fun x46 w => PK Tryd.prog x40 (Value.bool true) x46 w fun x47 w => CondK x47 (VK Tryd.prog (Instr.loadAt 75 (ρ 3)) w fun x48 w => UK Tryd.prog (Instr.storeAt 75 (ρ 2) x48) w fun _ w => K .ret (up (up (up (up (up (up (up (up (up (up (up (up (up (up (up (up (up ρ 33 x33) 34 x34) 35 x35) 5 x5) 36 x36) 37 x37) 38 x38) 39 x39) 40 x40) 41 x40) 42 x42) 43 x43) 44 x44) 45 x45) 46 x46) 47 x47) 48 x48) w) (VK Tryd.prog (Instr.loadAt 75 (ρ 4)) w fun x49 w => UK Tryd.prog (Instr.storeAt 75 (ρ 2) x49) w fun _ w => K .ret (up (up (up (up (up (up (up (up (up (up (up (up (up (up (up (up (up ρ 33 x33) 34 x34) 35 x35) 5 x5) 36 x36) 37 x37) 38 x38) 39 x39) 40 x40) 41 x40) 42 x42) 43 x43) 44 x44) 45 x45) 46 x46) 47 x47) 49 x49) w)
theorem dispatcherref02_cursor_next_R4_eq (z : At) (K : Exit → Sl → World → Prop) (ρ : Sl) (w : World) : sx z Tryd.prog 50 dispatcherref02_cursor_next_R4 K ρ w = dispatcherref02_cursor_next_R4_F z K ρ w := by kernel_rfl
noncomputable def dispatcherref02_cursor_next_F (a0 : Value) (w : World) (R : Value → World → Prop) : Prop :=
  VK Tryd.prog (Instr.alloc 75 true (.tuple #[])) w fun x2 w => VK Tryd.prog (Instr.build 75 [].toArray) w fun x6 w => VK Tryd.prog (Instr.alloc 75 true (.tuple #[])) w fun x3 w => UK Tryd.prog (Instr.storeAt 75 x3 x6) w fun _ w => W fn_ Tryd.prog 50 dispatcherref02_cursor_next_R0 (seqK (sx fn_ Tryd.prog 50 dispatcherref02_cursor_next_R1 (seqK (sx fn_ Tryd.prog 50 dispatcherref02_cursor_next_R2 (retK Tryd.prog [ResultVar.cell 2 75] R)) (retK Tryd.prog [ResultVar.cell 2 75] R))) (seqK (sx fn_ Tryd.prog 50 dispatcherref02_cursor_next_R2 (retK Tryd.prog [ResultVar.cell 2 75] R)) (retK Tryd.prog [ResultVar.cell 2 75] R))) (up (up (up (rho0 [a0]) 2 x2) 6 x6) 3 x3) w
theorem dispatcherref02_cursor_next_eq (a0 : Value) (w : World) (R : Value → World → Prop) : sx fn_ Tryd.prog 50 dispatcherref02_cursor_next_b (retK Tryd.prog Tryd.f38.results.toList R) (rho0 [a0]) w = dispatcherref02_cursor_next_F a0 w R := by kernel_rfl
theorem dispatcherref02_cursor_next_calls {a0 : Value} {w : World} {R : Value → World → Prop} (h : dispatcherref02_cursor_next_F a0 w R) : Calls Tryd.prog 38 #[a0] w fun e w' => ∃ v, e = .returned v ∧ R v w' :=
  Go.X.calls_of_sx (n := 50) (c := dispatcherref02_cursor_next_b) Tryd.func38 (by kernel_rfl) (by kernel_rfl) (Nat.le_of_ble_eq_true rfl) (by kernel_rfl) (Eq.mpr (dispatcherref02_cursor_next_eq a0 w R) h)
noncomputable def dispatcherref02_cursor_name_b : Code := (Tryd.f39.body).getD .skip
noncomputable def dispatcherref02_cursor_name_F (a0 : Value) (w : World) (R : Value → World → Prop) : Prop :=
  CK Tryd.prog (Value.func (Fn.func 38) #[] #[]) [a0] w fun x5 w => VK Tryd.prog (Instr.alloc 75 true (.tuple #[])) w fun x3 w => UK Tryd.prog (Instr.storeAt 75 x3 x5) w fun _ w => VK Tryd.prog (Instr.fieldAt 75 x3 0) w fun x6 w => VK Tryd.prog (Instr.loadAt 5 x6) w fun x7 w => BK Tryd.prog .neq 5 (.tmp 7) (.const (Value.int .u8 1)) x7 (Value.int .u8 1) w fun x8 w => CondK x8 (CK Tryd.prog (Value.func (Fn.func 67) #[] #[]) [a0] w fun x10 w => R (Value.string { data := #[] }) w) (NK Tryd.prog a0 w fun x12 w => VK Tryd.prog (Instr.fieldAt 79 x12 1) w fun x13 w => VK Tryd.prog (Instr.loadAt 3 x13) w fun x14 w => BK Tryd.prog .add 3 (.tmp 14) (.const (Value.int .i64 1)) x14 (Value.int .i64 1) w fun x15 w => NK Tryd.prog a0 w fun x16 w => VK Tryd.prog (Instr.fieldAt 79 x16 1) w fun x17 w => UK Tryd.prog (Instr.storeAt 3 x17 x15) w fun _ w => VK Tryd.prog (Instr.fieldAt 75 x3 1) w fun x18 w => VK Tryd.prog (Instr.loadAt 9 x18) w fun x19 w => R x19 w)
theorem dispatcherref02_cursor_name_eq (a0 : Value) (w : World) (R : Value → World → Prop) : sx fn_ Tryd.prog 20 dispatcherref02_cursor_name_b (retK Tryd.prog Tryd.f39.results.toList R) (rho0 [a0]) w = dispatcherref02_cursor_name_F a0 w R := by kernel_rfl
theorem dispatcherref02_cursor_name_calls {a0 : Value} {w : World} {R : Value → World → Prop} (h : dispatcherref02_cursor_name_F a0 w R) : Calls Tryd.prog 39 #[a0] w fun e w' => ∃ v, e = .returned v ∧ R v w' :=
  Go.X.calls_of_sx (n := 20) (c := dispatcherref02_cursor_name_b) Tryd.func39 (by kernel_rfl) (by kernel_rfl) (Nat.le_of_ble_eq_true rfl) (by kernel_rfl) (Eq.mpr (dispatcherref02_cursor_name_eq a0 w R) h)
noncomputable def dispatcherref02_cursor_number_b : Code := (Tryd.f40.body).getD .skip
noncomputable def dispatcherref02_cursor_number_F (a0 a1 : Value) (w : World) (R : Value → World → Prop) : Prop :=
  CK Tryd.prog (Value.func (Fn.func 38) #[] #[]) [a0] w fun x7 w => VK Tryd.prog (Instr.alloc 75 true (.tuple #[])) w fun x5 w => UK Tryd.prog (Instr.storeAt 75 x5 x7) w fun _ w => VK Tryd.prog (Instr.fieldAt 75 x5 0) w fun x8 w => VK Tryd.prog (Instr.loadAt 5 x8) w fun x9 w => BK Tryd.prog .neq 5 (.tmp 9) (.const (Value.int .u8 2)) x9 (Value.int .u8 2) w fun x10 w => VG Tryd.prog x10 false (Instr.fieldAt 75 x5 2) w fun x12 w => VG Tryd.prog x10 false (Instr.loadAt 2 x12) w fun x13 w => BG Tryd.prog x10 false .lss 2 (.tmp 13) (.const (Value.int .i64 1)) x13 (Value.int .i64 1) w fun x14 w => PK Tryd.prog x10 (Value.bool true) x14 w fun x15 w => VG Tryd.prog x15 false (Instr.fieldAt 75 x5 2) w fun x17 w => VG Tryd.prog x15 false (Instr.loadAt 2 x17) w fun x18 w => MG Tryd.prog x15 false a1 w fun x19 w => BG Tryd.prog x15 false .gtr 2 (.tmp 18) (.tmp 19) x18 x19 w fun x20 w => PK Tryd.prog x15 (Value.bool true) x20 w fun x21 w => CondK x21 (CK Tryd.prog (Value.func (Fn.func 67) #[] #[]) [a0] w fun x23 w => R (Value.int .i64 0) w) (NK Tryd.prog a0 w fun x25 w => VK Tryd.prog (Instr.fieldAt 79 x25 1) w fun x26 w => VK Tryd.prog (Instr.loadAt 3 x26) w fun x27 w => BK Tryd.prog .add 3 (.tmp 27) (.const (Value.int .i64 1)) x27 (Value.int .i64 1) w fun x28 w => NK Tryd.prog a0 w fun x29 w => VK Tryd.prog (Instr.fieldAt 79 x29 1) w fun x30 w => UK Tryd.prog (Instr.storeAt 3 x30 x28) w fun _ w => VK Tryd.prog (Instr.fieldAt 75 x5 2) w fun x31 w => VK Tryd.prog (Instr.loadAt 2 x31) w fun x32 w => R x32 w)
theorem dispatcherref02_cursor_number_eq (a0 a1 : Value) (w : World) (R : Value → World → Prop) : sx fn_ Tryd.prog 33 dispatcherref02_cursor_number_b (retK Tryd.prog Tryd.f40.results.toList R) (rho0 [a0, a1]) w = dispatcherref02_cursor_number_F a0 a1 w R := by kernel_rfl
theorem dispatcherref02_cursor_number_calls {a0 a1 : Value} {w : World} {R : Value → World → Prop} (h : dispatcherref02_cursor_number_F a0 a1 w R) : Calls Tryd.prog 40 #[a0, a1] w fun e w' => ∃ v, e = .returned v ∧ R v w' :=
  Go.X.calls_of_sx (n := 33) (c := dispatcherref02_cursor_number_b) Tryd.func40 (by kernel_rfl) (by kernel_rfl) (Nat.le_of_ble_eq_true rfl) (by kernel_rfl) (Eq.mpr (dispatcherref02_cursor_number_eq a0 a1 w R) h)
noncomputable def dispatcherref02_cursor_need_b : Code := (Tryd.f41.body).getD .skip
noncomputable def dispatcherref02_cursor_need_F (a0 a1 : Value) (w : World) (R : Value → World → Prop) : Prop :=
  CK Tryd.prog (Value.func (Fn.func 37) #[] #[]) [a0, a1] w fun x6 w => VK Tryd.prog (Op.unary UnOp.not x6) w fun x7 w => CondK x7 (CK Tryd.prog (Value.func (Fn.func 67) #[] #[]) [a0] w fun x9 w => R (Value.tuple #[]) w) (R (Value.tuple #[]) w)
theorem dispatcherref02_cursor_need_eq (a0 a1 : Value) (w : World) (R : Value → World → Prop) : sx fn_ Tryd.prog 10 dispatcherref02_cursor_need_b (retK Tryd.prog Tryd.f41.results.toList R) (rho0 [a0, a1]) w = dispatcherref02_cursor_need_F a0 a1 w R := by kernel_rfl
theorem dispatcherref02_cursor_need_calls {a0 a1 : Value} {w : World} {R : Value → World → Prop} (h : dispatcherref02_cursor_need_F a0 a1 w R) : Calls Tryd.prog 41 #[a0, a1] w fun e w' => ∃ v, e = .returned v ∧ R v w' :=
  Go.X.calls_of_sx (n := 10) (c := dispatcherref02_cursor_need_b) Tryd.func41 (by kernel_rfl) (by kernel_rfl) (Nat.le_of_ble_eq_true rfl) (by kernel_rfl) (Eq.mpr (dispatcherref02_cursor_need_eq a0 a1 w R) h)
noncomputable def dispatcherref02_cursor_good_b : Code := (Tryd.f42.body).getD .skip
noncomputable def dispatcherref02_cursor_good_F (a0 : Value) (w : World) (R : Value → World → Prop) : Prop :=
  NK Tryd.prog a0 w fun x4 w => VK Tryd.prog (Instr.fieldAt 79 x4 2) w fun x5 w => VK Tryd.prog (Instr.loadAt 3 x5) w fun x6 w => BK Tryd.prog .lss 3 (.tmp 6) (.const (Value.int .i64 0)) x6 (Value.int .i64 0) w fun x7 w => R x7 w
theorem dispatcherref02_cursor_good_eq (a0 : Value) (w : World) (R : Value → World → Prop) : sx fn_ Tryd.prog 8 dispatcherref02_cursor_good_b (retK Tryd.prog Tryd.f42.results.toList R) (rho0 [a0]) w = dispatcherref02_cursor_good_F a0 w R := by kernel_rfl
theorem dispatcherref02_cursor_good_calls {a0 : Value} {w : World} {R : Value → World → Prop} (h : dispatcherref02_cursor_good_F a0 w R) : Calls Tryd.prog 42 #[a0] w fun e w' => ∃ v, e = .returned v ∧ R v w' :=
  Go.X.calls_of_sx (n := 8) (c := dispatcherref02_cursor_good_b) Tryd.func42 (by kernel_rfl) (by kernel_rfl) (Nat.le_of_ble_eq_true rfl) (by kernel_rfl) (Eq.mpr (dispatcherref02_cursor_good_eq a0 w R) h)
noncomputable def dispatcherref02_cursor_stmt_b : Code := (Tryd.f43.body).getD .skip
noncomputable def dispatcherref02_cursor_stmt_R0 : Code := cAt [1, 1, 1, 1] dispatcherref02_cursor_stmt_b
noncomputable def dispatcherref02_cursor_stmt_R1 : Code := cAt [1, 1, 1, 0, 0, 1, 0, 1, 1, 1] dispatcherref02_cursor_stmt_b
noncomputable def dispatcherref02_cursor_stmt_R2 : Code := cAt [1, 1, 1, 0, 0, 1, 0, 1, 1, 0, 1, 0, 1, 0] dispatcherref02_cursor_stmt_b
noncomputable def dispatcherref02_cursor_stmt_R3 : Code := cAt [1, 1, 1, 0, 0, 1, 0, 1, 1, 0, 1, 0, 1, 1] dispatcherref02_cursor_stmt_b
noncomputable def dispatcherref02_cursor_stmt_R4 : Code := cAt [1, 1, 1, 0, 0, 1, 1, 1, 0, 1, 0] dispatcherref02_cursor_stmt_b
noncomputable def dispatcherref02_cursor_stmt_R5 : Code := cAt [1, 1, 1, 0, 0, 1, 1, 1, 0, 1, 1] dispatcherref02_cursor_stmt_b
noncomputable def dispatcherref02_cursor_stmt_R6 : Code := cAt [1, 1, 1, 0, 0, 1, 1, 1, 1, 1, 0, 1, 0] dispatcherref02_cursor_stmt_b
noncomputable def dispatcherref02_cursor_stmt_R7 : Code := cAt [1, 1, 1, 0, 0, 1, 1, 1, 1, 1, 0, 1, 1] dispatcherref02_cursor_stmt_b
noncomputable def dispatcherref02_cursor_stmt_R8 : Code := cAt [1, 1, 1, 0, 0, 1, 1, 1, 1, 1, 1, 1, 0, 1, 1, 1, 1] dispatcherref02_cursor_stmt_b
noncomputable def dispatcherref02_cursor_stmt_R9 : Code := cAt [1, 1, 1, 0, 0, 1, 1, 1, 1, 1, 1, 1, 1, 1, 0, 1] dispatcherref02_cursor_stmt_b
noncomputable def dispatcherref02_cursor_stmt_R10 : Code := cAt [1, 1, 1, 0, 0, 1, 0, 1, 1, 1, 1] dispatcherref02_cursor_stmt_b
noncomputable def dispatcherref02_cursor_stmt_R0_F (z : At) (K : Exit → Sl → World → Prop) (ρ : Sl) (w : World) : Prop :=
  CK Tryd.prog (Value.func (Fn.func 41) #[] #[]) [(ρ 0), (Value.string { data := #[59] })] w fun x139 w => VK Tryd.prog (Instr.loadAt 25 (ρ 4)) w fun x140 w => UK Tryd.prog (Instr.storeAt 25 (ρ 2) x140) w fun _ w => K .ret (up (up (up ρ 138 (ρ 0)) 139 x139) 140 x140) w
theorem dispatcherref02_cursor_stmt_R0_eq (z : At) (K : Exit → Sl → World → Prop) (ρ : Sl) (w : World) : sx z Tryd.prog 141 dispatcherref02_cursor_stmt_R0 K ρ w = dispatcherref02_cursor_stmt_R0_F z K ρ w := by kernel_rfl
noncomputable def dispatcherref02_cursor_stmt_R1_F (z : At) (K : Exit → Sl → World → Prop) (ρ : Sl) (w : World) : Prop :=
  CK Tryd.prog (Value.func (Fn.func 41) #[] #[]) [(ρ 0), (Value.string { data := #[61] })] w fun x36 w => W z Tryd.prog 141 dispatcherref02_cursor_stmt_R10 K (up (up ρ 35 (ρ 0)) 36 x36) w
theorem dispatcherref02_cursor_stmt_R1_eq (z : At) (K : Exit → Sl → World → Prop) (ρ : Sl) (w : World) : sx z Tryd.prog 141 dispatcherref02_cursor_stmt_R1 K ρ w = dispatcherref02_cursor_stmt_R1_F z K ρ w := by kernel_rfl
noncomputable def dispatcherref02_cursor_stmt_R6_ops : Array Oper := opsOf dispatcherref02_cursor_stmt_R6
def dispatcherref02_cursor_stmt_R6_H (S : World → Prop) (K : Exit → Sl → World → Prop) (ρ : Sl) (w : World) : Prop :=
  HK Tryd.prog S (do pure (Next.value (← Instr.fieldAt 25 (ρ 4) 5))) fun x68 => (VK Tryd.prog (Instr.loadAt 22 x68) w fun x69 w => S w ∧ (CK Tryd.prog (Value.func (Fn.func 68) #[] #[]) [(ρ 0), (Value.int IntKind.i64 0)] w fun x71 w => S w ∧ (VK Tryd.prog (Instr.buildSlice 22 1 [(0, x71)].toArray) w fun x72 w => S w ∧ (IK Tryd.prog Builtin.append #[22, 22] 22 [false, false] [x69, x72] w fun x73 w => S w ∧ (HK Tryd.prog S (do pure (Next.value (← Instr.fieldAt 25 (ρ 4) 5))) fun x74 => UK Tryd.prog (Instr.storeAt 22 x74 x73) w fun _ w => S w ∧ (K Exit.normal (up (up (up (up (up (up (up ρ 68 x68) 70 (ρ 0)) 69 x69) 71 x71) 72 x72) 73 x73) 74 x74) w)))))) ∧ (CK Tryd.prog (Value.func (Fn.func 68) #[] #[]) [(ρ 0), (Value.int IntKind.i64 0)] w fun x71_1 w => S w ∧ ((VK Tryd.prog (Instr.loadAt 22 x68) w fun x69_1 w => S w ∧ (VK Tryd.prog (Instr.buildSlice 22 1 [(0, x71_1)].toArray) w fun x72_1 w => S w ∧ (IK Tryd.prog Builtin.append #[22, 22] 22 [false, false] [x69_1, x72_1] w fun x73_1 w => S w ∧ (HK Tryd.prog S (do pure (Next.value (← Instr.fieldAt 25 (ρ 4) 5))) fun x74_1 => UK Tryd.prog (Instr.storeAt 22 x74_1 x73_1) w fun _ w => S w ∧ (K Exit.normal (up (up (up (up (up (up (up ρ 68 x68) 70 (ρ 0)) 71 x71_1) 69 x69_1) 72 x72_1) 73 x73_1) 74 x74_1) w))))) ∧ (VK Tryd.prog (Instr.buildSlice 22 1 [(0, x71_1)].toArray) w fun x72_2 w => S w ∧ (VK Tryd.prog (Instr.loadAt 22 x68) w fun x69_2 w => S w ∧ (IK Tryd.prog Builtin.append #[22, 22] 22 [false, false] [x69_2, x72_2] w fun x73_2 w => S w ∧ (HK Tryd.prog S (do pure (Next.value (← Instr.fieldAt 25 (ρ 4) 5))) fun x74_2 => UK Tryd.prog (Instr.storeAt 22 x74_2 x73_2) w fun _ w => S w ∧ (K Exit.normal (up (up (up (up (up (up (up ρ 68 x68) 70 (ρ 0)) 71 x71_1) 72 x72_2) 69 x69_2) 73 x73_2) 74 x74_2) w)))))))
theorem dispatcherref02_cursor_stmt_R6_held {D : List Deferred} (S : World → Prop) {K : Exit → Sl → World → Prop} {ρ : Sl} {w : World} (hS : S { w with drawn := w.drawn + 1 }) (h : dispatcherref02_cursor_stmt_R6_H S K ρ { w with drawn := w.drawn + 1 }) : W ⟨none, D⟩ Tryd.prog 141 dispatcherref02_cursor_stmt_R6 K ρ w := by
  have e : dispatcherref02_cursor_stmt_R6 = .region (idOf dispatcherref02_cursor_stmt_R6) dispatcherref02_cursor_stmt_R6_ops true := by kernel_rfl
  have q : sxp Tryd.prog S dispatcherref02_cursor_stmt_R6_ops (K .normal) (Pl.take 0 (Pl.take 2 (Pl.two 1 3 (Pl.only 3 (Pl.only 4 (Pl.only 5 (Pl.take 6 (Pl.only 7 Pl.done))))) (Pl.two 1 4 (Pl.only 4 (Pl.only 5 (Pl.take 6 (Pl.only 7 Pl.done)))) (Pl.only 1 (Pl.only 5 (Pl.take 6 (Pl.only 7 Pl.done)))))))) ρ { w with drawn := w.drawn + 1 } = dispatcherref02_cursor_stmt_R6_H S K ρ { w with drawn := w.drawn + 1 } := by kernel_rfl
  rw [e]
  exact W_plan S (Pl.take 0 (Pl.take 2 (Pl.two 1 3 (Pl.only 3 (Pl.only 4 (Pl.only 5 (Pl.take 6 (Pl.only 7 Pl.done))))) (Pl.two 1 4 (Pl.only 4 (Pl.only 5 (Pl.take 6 (Pl.only 7 Pl.done)))) (Pl.only 1 (Pl.only 5 (Pl.take 6 (Pl.only 7 Pl.done)))))))) (by kernel_rfl) (by kernel_rfl) (by kernel_rfl) (by kernel_rfl) hS (Eq.mpr q h)
noncomputable def dispatcherref02_cursor_stmt_R7_F (z : At) (K : Exit → Sl → World → Prop) (ρ : Sl) (w : World) : Prop :=
  CK Tryd.prog (Value.func (Fn.func 69) #[] #[]) [(ρ 0)] w fun x76 w => VK Tryd.prog (Instr.fieldAt 25 (ρ 4) 6) w fun x77 w => UK Tryd.prog (Instr.storeAt 23 x77 x76) w fun _ w => VK Tryd.prog (Instr.loadAt 25 (ρ 4)) w fun x78 w => UK Tryd.prog (Instr.storeAt 25 (ρ 2) x78) w fun _ w => K .ret (up (up (up (up ρ 75 (ρ 0)) 76 x76) 77 x77) 78 x78) w
theorem dispatcherref02_cursor_stmt_R7_eq (z : At) (K : Exit → Sl → World → Prop) (ρ : Sl) (w : World) : sx z Tryd.prog 141 dispatcherref02_cursor_stmt_R7 K ρ w = dispatcherref02_cursor_stmt_R7_F z K ρ w := by kernel_rfl
noncomputable def dispatcherref02_cursor_stmt_R8_F (z : At) (K : Exit → Sl → World → Prop) (ρ : Sl) (w : World) : Prop :=
  CK Tryd.prog (Value.func (Fn.func 69) #[] #[]) [(ρ 0)] w fun x95 w => VK Tryd.prog (Instr.fieldAt 25 (ρ 4) 6) w fun x96 w => UK Tryd.prog (Instr.storeAt 23 x96 x95) w fun _ w => VK Tryd.prog (Instr.loadAt 25 (ρ 4)) w fun x97 w => UK Tryd.prog (Instr.storeAt 25 (ρ 2) x97) w fun _ w => K .ret (up (up (up (up ρ 94 (ρ 0)) 95 x95) 96 x96) 97 x97) w
theorem dispatcherref02_cursor_stmt_R8_eq (z : At) (K : Exit → Sl → World → Prop) (ρ : Sl) (w : World) : sx z Tryd.prog 141 dispatcherref02_cursor_stmt_R8 K ρ w = dispatcherref02_cursor_stmt_R8_F z K ρ w := by kernel_rfl
noncomputable def dispatcherref02_cursor_stmt_R9_ops : Array Oper := opsOf dispatcherref02_cursor_stmt_R9
def dispatcherref02_cursor_stmt_R9_H (S : World → Prop) (K : Exit → Sl → World → Prop) (ρ : Sl) (w : World) : Prop :=
  HK Tryd.prog S (do pure (Next.value (← Instr.fieldAt 25 (ρ 4) 5))) fun x102 => (VK Tryd.prog (Instr.loadAt 22 x102) w fun x103 w => S w ∧ (CK Tryd.prog (Value.func (Fn.func 68) #[] #[]) [(ρ 0), (Value.int IntKind.i64 0)] w fun x105 w => S w ∧ (VK Tryd.prog (Instr.buildSlice 22 1 [(0, x105)].toArray) w fun x106 w => S w ∧ (IK Tryd.prog Builtin.append #[22, 22] 22 [false, false] [x103, x106] w fun x107 w => S w ∧ (HK Tryd.prog S (do pure (Next.value (← Instr.fieldAt 25 (ρ 4) 5))) fun x108 => UK Tryd.prog (Instr.storeAt 22 x108 x107) w fun _ w => S w ∧ (K Exit.normal (up (up (up (up (up (up (up ρ 102 x102) 104 (ρ 0)) 103 x103) 105 x105) 106 x106) 107 x107) 108 x108) w)))))) ∧ (CK Tryd.prog (Value.func (Fn.func 68) #[] #[]) [(ρ 0), (Value.int IntKind.i64 0)] w fun x105_1 w => S w ∧ ((VK Tryd.prog (Instr.loadAt 22 x102) w fun x103_1 w => S w ∧ (VK Tryd.prog (Instr.buildSlice 22 1 [(0, x105_1)].toArray) w fun x106_1 w => S w ∧ (IK Tryd.prog Builtin.append #[22, 22] 22 [false, false] [x103_1, x106_1] w fun x107_1 w => S w ∧ (HK Tryd.prog S (do pure (Next.value (← Instr.fieldAt 25 (ρ 4) 5))) fun x108_1 => UK Tryd.prog (Instr.storeAt 22 x108_1 x107_1) w fun _ w => S w ∧ (K Exit.normal (up (up (up (up (up (up (up ρ 102 x102) 104 (ρ 0)) 105 x105_1) 103 x103_1) 106 x106_1) 107 x107_1) 108 x108_1) w))))) ∧ (VK Tryd.prog (Instr.buildSlice 22 1 [(0, x105_1)].toArray) w fun x106_2 w => S w ∧ (VK Tryd.prog (Instr.loadAt 22 x102) w fun x103_2 w => S w ∧ (IK Tryd.prog Builtin.append #[22, 22] 22 [false, false] [x103_2, x106_2] w fun x107_2 w => S w ∧ (HK Tryd.prog S (do pure (Next.value (← Instr.fieldAt 25 (ρ 4) 5))) fun x108_2 => UK Tryd.prog (Instr.storeAt 22 x108_2 x107_2) w fun _ w => S w ∧ (K Exit.normal (up (up (up (up (up (up (up ρ 102 x102) 104 (ρ 0)) 105 x105_1) 106 x106_2) 103 x103_2) 107 x107_2) 108 x108_2) w)))))))
theorem dispatcherref02_cursor_stmt_R9_held {D : List Deferred} (S : World → Prop) {K : Exit → Sl → World → Prop} {ρ : Sl} {w : World} (hS : S { w with drawn := w.drawn + 1 }) (h : dispatcherref02_cursor_stmt_R9_H S K ρ { w with drawn := w.drawn + 1 }) : W ⟨none, D⟩ Tryd.prog 141 dispatcherref02_cursor_stmt_R9 K ρ w := by
  have e : dispatcherref02_cursor_stmt_R9 = .region (idOf dispatcherref02_cursor_stmt_R9) dispatcherref02_cursor_stmt_R9_ops true := by kernel_rfl
  have q : sxp Tryd.prog S dispatcherref02_cursor_stmt_R9_ops (K .normal) (Pl.take 0 (Pl.take 2 (Pl.two 1 3 (Pl.only 3 (Pl.only 4 (Pl.only 5 (Pl.take 6 (Pl.only 7 Pl.done))))) (Pl.two 1 4 (Pl.only 4 (Pl.only 5 (Pl.take 6 (Pl.only 7 Pl.done)))) (Pl.only 1 (Pl.only 5 (Pl.take 6 (Pl.only 7 Pl.done)))))))) ρ { w with drawn := w.drawn + 1 } = dispatcherref02_cursor_stmt_R9_H S K ρ { w with drawn := w.drawn + 1 } := by kernel_rfl
  rw [e]
  exact W_plan S (Pl.take 0 (Pl.take 2 (Pl.two 1 3 (Pl.only 3 (Pl.only 4 (Pl.only 5 (Pl.take 6 (Pl.only 7 Pl.done))))) (Pl.two 1 4 (Pl.only 4 (Pl.only 5 (Pl.take 6 (Pl.only 7 Pl.done)))) (Pl.only 1 (Pl.only 5 (Pl.take 6 (Pl.only 7 Pl.done)))))))) (by kernel_rfl) (by kernel_rfl) (by kernel_rfl) (by kernel_rfl) hS (Eq.mpr q h)
noncomputable def dispatcherref02_cursor_stmt_R10_ops : Array Oper := opsOf dispatcherref02_cursor_stmt_R10
def dispatcherref02_cursor_stmt_R10_H (S : World → Prop) (K : Exit → Sl → World → Prop) (ρ : Sl) (w : World) : Prop :=
  HK Tryd.prog S (do pure (Next.value (← Instr.fieldAt 25 (ρ 4) 5))) fun x37 => (VK Tryd.prog (Instr.loadAt 22 x37) w fun x38 w => S w ∧ (CK Tryd.prog (Value.func (Fn.func 68) #[] #[]) [(ρ 0), (Value.int IntKind.i64 0)] w fun x40 w => S w ∧ (VK Tryd.prog (Instr.buildSlice 22 1 [(0, x40)].toArray) w fun x41 w => S w ∧ (IK Tryd.prog Builtin.append #[22, 22] 22 [false, false] [x38, x41] w fun x42 w => S w ∧ (HK Tryd.prog S (do pure (Next.value (← Instr.fieldAt 25 (ρ 4) 5))) fun x43 => UK Tryd.prog (Instr.storeAt 22 x43 x42) w fun _ w => S w ∧ (K Exit.normal (up (up (up (up (up (up (up ρ 37 x37) 39 (ρ 0)) 38 x38) 40 x40) 41 x41) 42 x42) 43 x43) w)))))) ∧ (CK Tryd.prog (Value.func (Fn.func 68) #[] #[]) [(ρ 0), (Value.int IntKind.i64 0)] w fun x40_1 w => S w ∧ ((VK Tryd.prog (Instr.loadAt 22 x37) w fun x38_1 w => S w ∧ (VK Tryd.prog (Instr.buildSlice 22 1 [(0, x40_1)].toArray) w fun x41_1 w => S w ∧ (IK Tryd.prog Builtin.append #[22, 22] 22 [false, false] [x38_1, x41_1] w fun x42_1 w => S w ∧ (HK Tryd.prog S (do pure (Next.value (← Instr.fieldAt 25 (ρ 4) 5))) fun x43_1 => UK Tryd.prog (Instr.storeAt 22 x43_1 x42_1) w fun _ w => S w ∧ (K Exit.normal (up (up (up (up (up (up (up ρ 37 x37) 39 (ρ 0)) 40 x40_1) 38 x38_1) 41 x41_1) 42 x42_1) 43 x43_1) w))))) ∧ (VK Tryd.prog (Instr.buildSlice 22 1 [(0, x40_1)].toArray) w fun x41_2 w => S w ∧ (VK Tryd.prog (Instr.loadAt 22 x37) w fun x38_2 w => S w ∧ (IK Tryd.prog Builtin.append #[22, 22] 22 [false, false] [x38_2, x41_2] w fun x42_2 w => S w ∧ (HK Tryd.prog S (do pure (Next.value (← Instr.fieldAt 25 (ρ 4) 5))) fun x43_2 => UK Tryd.prog (Instr.storeAt 22 x43_2 x42_2) w fun _ w => S w ∧ (K Exit.normal (up (up (up (up (up (up (up ρ 37 x37) 39 (ρ 0)) 40 x40_1) 41 x41_2) 38 x38_2) 42 x42_2) 43 x43_2) w)))))))
theorem dispatcherref02_cursor_stmt_R10_held {D : List Deferred} (S : World → Prop) {K : Exit → Sl → World → Prop} {ρ : Sl} {w : World} (hS : S { w with drawn := w.drawn + 1 }) (h : dispatcherref02_cursor_stmt_R10_H S K ρ { w with drawn := w.drawn + 1 }) : W ⟨none, D⟩ Tryd.prog 141 dispatcherref02_cursor_stmt_R10 K ρ w := by
  have e : dispatcherref02_cursor_stmt_R10 = .region (idOf dispatcherref02_cursor_stmt_R10) dispatcherref02_cursor_stmt_R10_ops true := by kernel_rfl
  have q : sxp Tryd.prog S dispatcherref02_cursor_stmt_R10_ops (K .normal) (Pl.take 0 (Pl.take 2 (Pl.two 1 3 (Pl.only 3 (Pl.only 4 (Pl.only 5 (Pl.take 6 (Pl.only 7 Pl.done))))) (Pl.two 1 4 (Pl.only 4 (Pl.only 5 (Pl.take 6 (Pl.only 7 Pl.done)))) (Pl.only 1 (Pl.only 5 (Pl.take 6 (Pl.only 7 Pl.done)))))))) ρ { w with drawn := w.drawn + 1 } = dispatcherref02_cursor_stmt_R10_H S K ρ { w with drawn := w.drawn + 1 } := by kernel_rfl
  rw [e]
  exact W_plan S (Pl.take 0 (Pl.take 2 (Pl.two 1 3 (Pl.only 3 (Pl.only 4 (Pl.only 5 (Pl.take 6 (Pl.only 7 Pl.done))))) (Pl.two 1 4 (Pl.only 4 (Pl.only 5 (Pl.take 6 (Pl.only 7 Pl.done)))) (Pl.only 1 (Pl.only 5 (Pl.take 6 (Pl.only 7 Pl.done)))))))) (by kernel_rfl) (by kernel_rfl) (by kernel_rfl) (by kernel_rfl) hS (Eq.mpr q h)
noncomputable def dispatcherref02_cursor_stmt_F (a0 : Value) (w : World) (R : Value → World → Prop) : Prop :=
  VK Tryd.prog (Instr.alloc 25 true (.tuple #[])) w fun x2 w => CK Tryd.prog (Value.func (Fn.func 38) #[] #[]) [a0] w fun x6 w => VK Tryd.prog (Instr.alloc 75 true (.tuple #[])) w fun x3 w => UK Tryd.prog (Instr.storeAt 75 x3 x6) w fun _ w => VK Tryd.prog (Instr.fieldAt 75 x3 3) w fun x7 w => VK Tryd.prog (Instr.loadAt 3 x7) w fun x8 w => VK Tryd.prog (Instr.fieldAt 75 x3 4) w fun x9 w => VK Tryd.prog (Instr.loadAt 3 x9) w fun x10 w => VK Tryd.prog (Instr.build 25 [(8, x8), (9, x10)].toArray) w fun x11 w => VK Tryd.prog (Instr.alloc 25 true (.tuple #[])) w fun x4 w => UK Tryd.prog (Instr.storeAt 25 x4 x11) w fun _ w => VK Tryd.prog (Instr.fieldAt 75 x3 0) w fun x16 w => VK Tryd.prog (Instr.loadAt 5 x16) w fun x17 w => BK Tryd.prog .eql 5 (.tmp 17) (.const (Value.int .u8 1)) x17 (Value.int .u8 1) w fun x18 w => CondK x18 (VK Tryd.prog (Instr.fieldAt 25 x4 0) w fun x19 w => UK Tryd.prog (Instr.storeAt 5 x19 (Value.int .u8 1)) w fun _ w => CK Tryd.prog (Value.func (Fn.func 39) #[] #[]) [a0] w fun x21 w => VK Tryd.prog (Instr.fieldAt 25 x4 3) w fun x22 w => UK Tryd.prog (Instr.storeAt 9 x22 x21) w fun _ w => CK Tryd.prog (Value.func (Fn.func 37) #[] #[]) [a0, (Value.string { data := #[91] })] w fun x24 w => CondK x24 (VK Tryd.prog (Instr.fieldAt 25 x4 0) w fun x25 w => UK Tryd.prog (Instr.storeAt 5 x25 (Value.int .u8 2)) w fun _ w => W fn_ Tryd.prog 141 dispatcherref02_cursor_stmt_R2 (seqK (sx fn_ Tryd.prog 141 dispatcherref02_cursor_stmt_R3 (seqK (sx fn_ Tryd.prog 141 dispatcherref02_cursor_stmt_R1 (blkK 0 (seqK (sx fn_ Tryd.prog 141 dispatcherref02_cursor_stmt_R0 (retK Tryd.prog [ResultVar.cell 2 25] R)) (retK Tryd.prog [ResultVar.cell 2 25] R)))) (blkK 0 (seqK (sx fn_ Tryd.prog 141 dispatcherref02_cursor_stmt_R0 (retK Tryd.prog [ResultVar.cell 2 25] R)) (retK Tryd.prog [ResultVar.cell 2 25] R))))) (seqK (sx fn_ Tryd.prog 141 dispatcherref02_cursor_stmt_R1 (blkK 0 (seqK (sx fn_ Tryd.prog 141 dispatcherref02_cursor_stmt_R0 (retK Tryd.prog [ResultVar.cell 2 25] R)) (retK Tryd.prog [ResultVar.cell 2 25] R)))) (blkK 0 (seqK (sx fn_ Tryd.prog 141 dispatcherref02_cursor_stmt_R0 (retK Tryd.prog [ResultVar.cell 2 25] R)) (retK Tryd.prog [ResultVar.cell 2 25] R))))) (up (up (up (up (up (up (up (up (up (up (up (up (up (up (up (up (up (up (up (up (up (rho0 [a0]) 2 x2) 5 a0) 6 x6) 3 x3) 7 x7) 8 x8) 9 x9) 10 x10) 11 x11) 4 x4) 16 x16) 17 x17) 18 x18) 15 x18) 19 x19) 20 a0) 21 x21) 22 x22) 23 a0) 24 x24) 25 x25) w) (sx fn_ Tryd.prog 141 dispatcherref02_cursor_stmt_R1 (blkK 0 (seqK (sx fn_ Tryd.prog 141 dispatcherref02_cursor_stmt_R0 (retK Tryd.prog [ResultVar.cell 2 25] R)) (retK Tryd.prog [ResultVar.cell 2 25] R))) (up (up (up (up (up (up (up (up (up (up (up (up (up (up (up (up (up (up (up (up (rho0 [a0]) 2 x2) 5 a0) 6 x6) 3 x3) 7 x7) 8 x8) 9 x9) 10 x10) 11 x11) 4 x4) 16 x16) 17 x17) 18 x18) 15 x18) 19 x19) 20 a0) 21 x21) 22 x22) 23 a0) 24 x24) w)) (CK Tryd.prog (Value.func (Fn.func 37) #[] #[]) [a0, (Value.string { data := #[105, 102] })] w fun x46 w => CondK x46 (VK Tryd.prog (Instr.fieldAt 25 x4 0) w fun x47 w => UK Tryd.prog (Instr.storeAt 5 x47 (Value.int .u8 3)) w fun _ w => W fn_ Tryd.prog 141 dispatcherref02_cursor_stmt_R4 (seqK (sx fn_ Tryd.prog 141 dispatcherref02_cursor_stmt_R5 (blkK 0 (seqK (sx fn_ Tryd.prog 141 dispatcherref02_cursor_stmt_R0 (retK Tryd.prog [ResultVar.cell 2 25] R)) (retK Tryd.prog [ResultVar.cell 2 25] R)))) (blkK 0 (seqK (sx fn_ Tryd.prog 141 dispatcherref02_cursor_stmt_R0 (retK Tryd.prog [ResultVar.cell 2 25] R)) (retK Tryd.prog [ResultVar.cell 2 25] R)))) (up (up (up (up (up (up (up (up (up (up (up (up (up (up (up (up (up (up (rho0 [a0]) 2 x2) 5 a0) 6 x6) 3 x3) 7 x7) 8 x8) 9 x9) 10 x10) 11 x11) 4 x4) 16 x16) 17 x17) 18 x18) 15 x18) 45 a0) 46 x46) 44 x46) 47 x47) w) (CK Tryd.prog (Value.func (Fn.func 37) #[] #[]) [a0, (Value.string { data := #[119, 104, 105, 108, 101] })] w fun x66 w => CondK x66 (VK Tryd.prog (Instr.fieldAt 25 x4 0) w fun x67 w => UK Tryd.prog (Instr.storeAt 5 x67 (Value.int .u8 4)) w fun _ w => W fn_ Tryd.prog 141 dispatcherref02_cursor_stmt_R6 (seqK (sx fn_ Tryd.prog 141 dispatcherref02_cursor_stmt_R7 (blkK 0 (seqK (sx fn_ Tryd.prog 141 dispatcherref02_cursor_stmt_R0 (retK Tryd.prog [ResultVar.cell 2 25] R)) (retK Tryd.prog [ResultVar.cell 2 25] R)))) (blkK 0 (seqK (sx fn_ Tryd.prog 141 dispatcherref02_cursor_stmt_R0 (retK Tryd.prog [ResultVar.cell 2 25] R)) (retK Tryd.prog [ResultVar.cell 2 25] R)))) (up (up (up (up (up (up (up (up (up (up (up (up (up (up (up (up (up (up (up (up (up (rho0 [a0]) 2 x2) 5 a0) 6 x6) 3 x3) 7 x7) 8 x8) 9 x9) 10 x10) 11 x11) 4 x4) 16 x16) 17 x17) 18 x18) 15 x18) 45 a0) 46 x46) 44 x46) 65 a0) 66 x66) 64 x66) 67 x67) w) (CK Tryd.prog (Value.func (Fn.func 37) #[] #[]) [a0, (Value.string { data := #[102, 111, 114] })] w fun x81 w => CondK x81 (VK Tryd.prog (Instr.fieldAt 25 x4 0) w fun x82 w => UK Tryd.prog (Instr.storeAt 5 x82 (Value.int .u8 5)) w fun _ w => CK Tryd.prog (Value.func (Fn.func 39) #[] #[]) [a0] w fun x84 w => VK Tryd.prog (Instr.fieldAt 25 x4 3) w fun x85 w => UK Tryd.prog (Instr.storeAt 9 x85 x84) w fun _ w => CK Tryd.prog (Value.func (Fn.func 41) #[] #[]) [a0, (Value.string { data := #[60] })] w fun x87 w => CK Tryd.prog (Value.func (Fn.func 37) #[] #[]) [a0, (Value.string { data := #[115, 105, 122, 101] })] w fun x89 w => VK Tryd.prog (Op.unary UnOp.not x89) w fun x90 w => CondK x90 (CK Tryd.prog (Value.func (Fn.func 40) #[] #[]) [a0, (Value.int .i64 1000)] w fun x92 w => VK Tryd.prog (Instr.fieldAt 25 x4 4) w fun x93 w => UK Tryd.prog (Instr.storeAt 3 x93 x92) w fun _ w => sx fn_ Tryd.prog 141 dispatcherref02_cursor_stmt_R8 (blkK 0 (seqK (sx fn_ Tryd.prog 141 dispatcherref02_cursor_stmt_R0 (retK Tryd.prog [ResultVar.cell 2 25] R)) (retK Tryd.prog [ResultVar.cell 2 25] R))) (up (up (up (up (up (up (up (up (up (up (up (up (up (up (up (up (up (up (up (up (up (up (up (up (up (up (up (up (up (up (up (up (up (up (up (rho0 [a0]) 2 x2) 5 a0) 6 x6) 3 x3) 7 x7) 8 x8) 9 x9) 10 x10) 11 x11) 4 x4) 16 x16) 17 x17) 18 x18) 15 x18) 45 a0) 46 x46) 44 x46) 65 a0) 66 x66) 64 x66) 80 a0) 81 x81) 79 x81) 82 x82) 83 a0) 84 x84) 85 x85) 86 a0) 87 x87) 88 a0) 89 x89) 90 x90) 91 a0) 92 x92) 93 x93) w) (sx fn_ Tryd.prog 141 dispatcherref02_cursor_stmt_R8 (blkK 0 (seqK (sx fn_ Tryd.prog 141 dispatcherref02_cursor_stmt_R0 (retK Tryd.prog [ResultVar.cell 2 25] R)) (retK Tryd.prog [ResultVar.cell 2 25] R))) (up (up (up (up (up (up (up (up (up (up (up (up (up (up (up (up (up (up (up (up (up (up (up (up (up (up (up (up (up (up (up (up (rho0 [a0]) 2 x2) 5 a0) 6 x6) 3 x3) 7 x7) 8 x8) 9 x9) 10 x10) 11 x11) 4 x4) 16 x16) 17 x17) 18 x18) 15 x18) 45 a0) 46 x46) 44 x46) 65 a0) 66 x66) 64 x66) 80 a0) 81 x81) 79 x81) 82 x82) 83 a0) 84 x84) 85 x85) 86 a0) 87 x87) 88 a0) 89 x89) 90 x90) w)) (CK Tryd.prog (Value.func (Fn.func 37) #[] #[]) [a0, (Value.string { data := #[97, 115, 115, 101, 114, 116] })] w fun x100 w => CondK x100 (VK Tryd.prog (Instr.fieldAt 25 x4 0) w fun x101 w => UK Tryd.prog (Instr.storeAt 5 x101 (Value.int .u8 6)) w fun _ w => W fn_ Tryd.prog 141 dispatcherref02_cursor_stmt_R9 (blkK 0 (seqK (sx fn_ Tryd.prog 141 dispatcherref02_cursor_stmt_R0 (retK Tryd.prog [ResultVar.cell 2 25] R)) (retK Tryd.prog [ResultVar.cell 2 25] R))) (up (up (up (up (up (up (up (up (up (up (up (up (up (up (up (up (up (up (up (up (up (up (up (up (up (up (up (rho0 [a0]) 2 x2) 5 a0) 6 x6) 3 x3) 7 x7) 8 x8) 9 x9) 10 x10) 11 x11) 4 x4) 16 x16) 17 x17) 18 x18) 15 x18) 45 a0) 46 x46) 44 x46) 65 a0) 66 x66) 64 x66) 80 a0) 81 x81) 79 x81) 99 a0) 100 x100) 98 x100) 101 x101) w) (CK Tryd.prog (Value.func (Fn.func 37) #[] #[]) [a0, (Value.string { data := #[115, 116, 111, 112] })] w fun x111 w => CondK x111 (VK Tryd.prog (Instr.fieldAt 25 x4 0) w fun x112 w => UK Tryd.prog (Instr.storeAt 5 x112 (Value.int .u8 7)) w fun _ w => sx fn_ Tryd.prog 141 dispatcherref02_cursor_stmt_R0 (retK Tryd.prog [ResultVar.cell 2 25] R) (up (up (up (up (up (up (up (up (up (up (up (up (up (up (up (up (up (up (up (up (up (up (up (up (up (up (up (up (up (up (rho0 [a0]) 2 x2) 5 a0) 6 x6) 3 x3) 7 x7) 8 x8) 9 x9) 10 x10) 11 x11) 4 x4) 16 x16) 17 x17) 18 x18) 15 x18) 45 a0) 46 x46) 44 x46) 65 a0) 66 x66) 64 x66) 80 a0) 81 x81) 79 x81) 99 a0) 100 x100) 98 x100) 110 a0) 111 x111) 109 x111) 112 x112) w) (VK Tryd.prog (Instr.fieldAt 75 x3 0) w fun x114 w => VK Tryd.prog (Instr.loadAt 5 x114) w fun x115 w => BK Tryd.prog .eql 5 (.tmp 115) (.const (Value.int .u8 3)) x115 (Value.int .u8 3) w fun x116 w => VG Tryd.prog x116 true (Instr.fieldAt 75 x3 1) w fun x118 w => VG Tryd.prog x116 true (Instr.loadAt 9 x118) w fun x119 w => CG Tryd.prog x116 true (Value.func (Fn.func 70) #[] #[]) [x119] w fun x120 w => BG Tryd.prog x116 true .gtr 5 (.tmp 120) (.const (Value.int .u8 0)) x120 (Value.int .u8 0) w fun x121 w => PK Tryd.prog x116 x121 (Value.bool false) w fun x122 w => CondK x122 (NK Tryd.prog a0 w fun x124 w => VK Tryd.prog (Instr.fieldAt 79 x124 1) w fun x125 w => VK Tryd.prog (Instr.loadAt 3 x125) w fun x126 w => BK Tryd.prog .add 3 (.tmp 126) (.const (Value.int .i64 1)) x126 (Value.int .i64 1) w fun x127 w => NK Tryd.prog a0 w fun x128 w => VK Tryd.prog (Instr.fieldAt 79 x128 1) w fun x129 w => UK Tryd.prog (Instr.storeAt 3 x129 x127) w fun _ w => VK Tryd.prog (Instr.fieldAt 25 x4 0) w fun x130 w => UK Tryd.prog (Instr.storeAt 5 x130 (Value.int .u8 8)) w fun _ w => VK Tryd.prog (Instr.fieldAt 75 x3 1) w fun x131 w => VK Tryd.prog (Instr.loadAt 9 x131) w fun x132 w => CK Tryd.prog (Value.func (Fn.func 70) #[] #[]) [x132] w fun x133 w => VK Tryd.prog (Instr.fieldAt 25 x4 1) w fun x134 w => UK Tryd.prog (Instr.storeAt 5 x134 x133) w fun _ w => VK Tryd.prog (Instr.loadAt 25 x4) w fun x136 w => CK Tryd.prog (Value.func (Fn.func 71) #[] #[]) [a0, x136] w fun x137 w => UK Tryd.prog (Instr.storeAt 25 x4 x137) w fun _ w => sx fn_ Tryd.prog 141 dispatcherref02_cursor_stmt_R0 (retK Tryd.prog [ResultVar.cell 2 25] R) (up (up (up (up (up (up (up (up (up (up (up (up (up (up (up (up (up (up (up (up (up (up (up (up (up (up (up (up (up (up (up (up (up (up (up (up (up (up (up (up (up (up (up (up (up (up (up (up (up (up (up (up (up (up (rho0 [a0]) 2 x2) 5 a0) 6 x6) 3 x3) 7 x7) 8 x8) 9 x9) 10 x10) 11 x11) 4 x4) 16 x16) 17 x17) 18 x18) 15 x18) 45 a0) 46 x46) 44 x46) 65 a0) 66 x66) 64 x66) 80 a0) 81 x81) 79 x81) 99 a0) 100 x100) 98 x100) 110 a0) 111 x111) 109 x111) 114 x114) 115 x115) 116 x116) 117 x116) 118 x118) 119 x119) 120 x120) 121 x121) 122 x122) 113 x122) 123 a0) 124 x124) 125 x125) 126 x126) 127 x127) 128 x128) 129 x129) 130 x130) 131 x131) 132 x132) 133 x133) 134 x134) 135 a0) 136 x136) 137 x137) w) (CK Tryd.prog (Value.func (Fn.func 67) #[] #[]) [a0] w fun x13 w => VK Tryd.prog (Instr.loadAt 25 x4) w fun x14 w => UK Tryd.prog (Instr.storeAt 25 x2 x14) w fun _ w => ∃ x2_1, (do loadVar 25 (← asAddr x2) : Sem Value).run Tryd.prog w = .ok x2_1 w ∧ R x2_1 w)))))))
theorem dispatcherref02_cursor_stmt_eq (a0 : Value) (w : World) (R : Value → World → Prop) : sx fn_ Tryd.prog 141 dispatcherref02_cursor_stmt_b (retK Tryd.prog Tryd.f43.results.toList R) (rho0 [a0]) w = dispatcherref02_cursor_stmt_F a0 w R := by kernel_rfl
theorem dispatcherref02_cursor_stmt_calls {a0 : Value} {w : World} {R : Value → World → Prop} (h : dispatcherref02_cursor_stmt_F a0 w R) : Calls Tryd.prog 43 #[a0] w fun e w' => ∃ v, e = .returned v ∧ R v w' :=
  Go.X.calls_of_sx (n := 141) (c := dispatcherref02_cursor_stmt_b) Tryd.func43 (by kernel_rfl) (by kernel_rfl) (Nat.le_of_ble_eq_true rfl) (by kernel_rfl) (Eq.mpr (dispatcherref02_cursor_stmt_eq a0 w R) h)
noncomputable def dispatcherref01_Sign_b : Code := (Tryd.f63.body).getD .skip
noncomputable def dispatcherref01_Sign_R0 : Code := cAt [1, 0, 1, 0, 1] dispatcherref01_Sign_b
noncomputable def dispatcherref01_Sign_R1 : Code := cAt [1, 1] dispatcherref01_Sign_b
noncomputable def dispatcherref01_Sign_R0_F (z : At) (K : Exit → Sl → World → Prop) (ρ : Sl) (w : World) : Prop :=
  CondK (ρ 4) (K .ret (up ρ 2 (Value.bool true)) w) (K .normal ρ w)
theorem dispatcherref01_Sign_R0_eq (z : At) (K : Exit → Sl → World → Prop) (ρ : Sl) (w : World) : sx z Tryd.prog 28 dispatcherref01_Sign_R0 K ρ w = dispatcherref01_Sign_R0_F z K ρ w := by kernel_rfl
noncomputable def dispatcherref01_Sign_R1_F (z : At) (K : Exit → Sl → World → Prop) (ρ : Sl) (w : World) : Prop :=
  K .ret (up ρ 2 (Value.bool false)) w
theorem dispatcherref01_Sign_R1_eq (z : At) (K : Exit → Sl → World → Prop) (ρ : Sl) (w : World) : sx z Tryd.prog 28 dispatcherref01_Sign_R1 K ρ w = dispatcherref01_Sign_R1_F z K ρ w := by kernel_rfl
noncomputable def dispatcherref01_Sign_F (a0 : Value) (w : World) (R : Value → World → Prop) : Prop :=
  BK Tryd.prog .eql 9 (.tmp 3) (.const (Value.string { data := #[40] })) a0 (Value.string { data := #[40] }) w fun x5 w => CondK x5 (sx fn_ Tryd.prog 28 dispatcherref01_Sign_R0 (blkK 0 (seqK (sx fn_ Tryd.prog 28 dispatcherref01_Sign_R1 (retK Tryd.prog [ResultVar.tmp 2] R)) (retK Tryd.prog [ResultVar.tmp 2] R))) (up (up (up (up (rho0 [a0]) 2 (Value.bool false)) 3 a0) 5 x5) 4 x5) w) (BK Tryd.prog .eql 9 (.tmp 3) (.const (Value.string { data := #[41] })) a0 (Value.string { data := #[41] }) w fun x6 w => CondK x6 (sx fn_ Tryd.prog 28 dispatcherref01_Sign_R0 (blkK 0 (seqK (sx fn_ Tryd.prog 28 dispatcherref01_Sign_R1 (retK Tryd.prog [ResultVar.tmp 2] R)) (retK Tryd.prog [ResultVar.tmp 2] R))) (up (up (up (up (up (up (rho0 [a0]) 2 (Value.bool false)) 3 a0) 5 x5) 4 x5) 6 x6) 4 x6) w) (BK Tryd.prog .eql 9 (.tmp 3) (.const (Value.string { data := #[123] })) a0 (Value.string { data := #[123] }) w fun x7 w => CondK x7 (sx fn_ Tryd.prog 28 dispatcherref01_Sign_R0 (blkK 0 (seqK (sx fn_ Tryd.prog 28 dispatcherref01_Sign_R1 (retK Tryd.prog [ResultVar.tmp 2] R)) (retK Tryd.prog [ResultVar.tmp 2] R))) (up (up (up (up (up (up (up (up (rho0 [a0]) 2 (Value.bool false)) 3 a0) 5 x5) 4 x5) 6 x6) 4 x6) 7 x7) 4 x7) w) (BK Tryd.prog .eql 9 (.tmp 3) (.const (Value.string { data := #[125] })) a0 (Value.string { data := #[125] }) w fun x8 w => CondK x8 (sx fn_ Tryd.prog 28 dispatcherref01_Sign_R0 (blkK 0 (seqK (sx fn_ Tryd.prog 28 dispatcherref01_Sign_R1 (retK Tryd.prog [ResultVar.tmp 2] R)) (retK Tryd.prog [ResultVar.tmp 2] R))) (up (up (up (up (up (up (up (up (up (up (rho0 [a0]) 2 (Value.bool false)) 3 a0) 5 x5) 4 x5) 6 x6) 4 x6) 7 x7) 4 x7) 8 x8) 4 x8) w) (BK Tryd.prog .eql 9 (.tmp 3) (.const (Value.string { data := #[91] })) a0 (Value.string { data := #[91] }) w fun x9 w => CondK x9 (sx fn_ Tryd.prog 28 dispatcherref01_Sign_R0 (blkK 0 (seqK (sx fn_ Tryd.prog 28 dispatcherref01_Sign_R1 (retK Tryd.prog [ResultVar.tmp 2] R)) (retK Tryd.prog [ResultVar.tmp 2] R))) (up (up (up (up (up (up (up (up (up (up (up (up (rho0 [a0]) 2 (Value.bool false)) 3 a0) 5 x5) 4 x5) 6 x6) 4 x6) 7 x7) 4 x7) 8 x8) 4 x8) 9 x9) 4 x9) w) (BK Tryd.prog .eql 9 (.tmp 3) (.const (Value.string { data := #[93] })) a0 (Value.string { data := #[93] }) w fun x10 w => CondK x10 (sx fn_ Tryd.prog 28 dispatcherref01_Sign_R0 (blkK 0 (seqK (sx fn_ Tryd.prog 28 dispatcherref01_Sign_R1 (retK Tryd.prog [ResultVar.tmp 2] R)) (retK Tryd.prog [ResultVar.tmp 2] R))) (up (up (up (up (up (up (up (up (up (up (up (up (up (up (rho0 [a0]) 2 (Value.bool false)) 3 a0) 5 x5) 4 x5) 6 x6) 4 x6) 7 x7) 4 x7) 8 x8) 4 x8) 9 x9) 4 x9) 10 x10) 4 x10) w) (BK Tryd.prog .eql 9 (.tmp 3) (.const (Value.string { data := #[59] })) a0 (Value.string { data := #[59] }) w fun x11 w => CondK x11 (sx fn_ Tryd.prog 28 dispatcherref01_Sign_R0 (blkK 0 (seqK (sx fn_ Tryd.prog 28 dispatcherref01_Sign_R1 (retK Tryd.prog [ResultVar.tmp 2] R)) (retK Tryd.prog [ResultVar.tmp 2] R))) (up (up (up (up (up (up (up (up (up (up (up (up (up (up (up (up (rho0 [a0]) 2 (Value.bool false)) 3 a0) 5 x5) 4 x5) 6 x6) 4 x6) 7 x7) 4 x7) 8 x8) 4 x8) 9 x9) 4 x9) 10 x10) 4 x10) 11 x11) 4 x11) w) (BK Tryd.prog .eql 9 (.tmp 3) (.const (Value.string { data := #[44] })) a0 (Value.string { data := #[44] }) w fun x12 w => CondK x12 (sx fn_ Tryd.prog 28 dispatcherref01_Sign_R0 (blkK 0 (seqK (sx fn_ Tryd.prog 28 dispatcherref01_Sign_R1 (retK Tryd.prog [ResultVar.tmp 2] R)) (retK Tryd.prog [ResultVar.tmp 2] R))) (up (up (up (up (up (up (up (up (up (up (up (up (up (up (up (up (up (up (rho0 [a0]) 2 (Value.bool false)) 3 a0) 5 x5) 4 x5) 6 x6) 4 x6) 7 x7) 4 x7) 8 x8) 4 x8) 9 x9) 4 x9) 10 x10) 4 x10) 11 x11) 4 x11) 12 x12) 4 x12) w) (BK Tryd.prog .eql 9 (.tmp 3) (.const (Value.string { data := #[61] })) a0 (Value.string { data := #[61] }) w fun x13 w => CondK x13 (sx fn_ Tryd.prog 28 dispatcherref01_Sign_R0 (blkK 0 (seqK (sx fn_ Tryd.prog 28 dispatcherref01_Sign_R1 (retK Tryd.prog [ResultVar.tmp 2] R)) (retK Tryd.prog [ResultVar.tmp 2] R))) (up (up (up (up (up (up (up (up (up (up (up (up (up (up (up (up (up (up (up (up (rho0 [a0]) 2 (Value.bool false)) 3 a0) 5 x5) 4 x5) 6 x6) 4 x6) 7 x7) 4 x7) 8 x8) 4 x8) 9 x9) 4 x9) 10 x10) 4 x10) 11 x11) 4 x11) 12 x12) 4 x12) 13 x13) 4 x13) w) (BK Tryd.prog .eql 9 (.tmp 3) (.const (Value.string { data := #[43] })) a0 (Value.string { data := #[43] }) w fun x14 w => CondK x14 (sx fn_ Tryd.prog 28 dispatcherref01_Sign_R0 (blkK 0 (seqK (sx fn_ Tryd.prog 28 dispatcherref01_Sign_R1 (retK Tryd.prog [ResultVar.tmp 2] R)) (retK Tryd.prog [ResultVar.tmp 2] R))) (up (up (up (up (up (up (up (up (up (up (up (up (up (up (up (up (up (up (up (up (up (up (rho0 [a0]) 2 (Value.bool false)) 3 a0) 5 x5) 4 x5) 6 x6) 4 x6) 7 x7) 4 x7) 8 x8) 4 x8) 9 x9) 4 x9) 10 x10) 4 x10) 11 x11) 4 x11) 12 x12) 4 x12) 13 x13) 4 x13) 14 x14) 4 x14) w) (BK Tryd.prog .eql 9 (.tmp 3) (.const (Value.string { data := #[45] })) a0 (Value.string { data := #[45] }) w fun x15 w => CondK x15 (sx fn_ Tryd.prog 28 dispatcherref01_Sign_R0 (blkK 0 (seqK (sx fn_ Tryd.prog 28 dispatcherref01_Sign_R1 (retK Tryd.prog [ResultVar.tmp 2] R)) (retK Tryd.prog [ResultVar.tmp 2] R))) (up (up (up (up (up (up (up (up (up (up (up (up (up (up (up (up (up (up (up (up (up (up (up (up (rho0 [a0]) 2 (Value.bool false)) 3 a0) 5 x5) 4 x5) 6 x6) 4 x6) 7 x7) 4 x7) 8 x8) 4 x8) 9 x9) 4 x9) 10 x10) 4 x10) 11 x11) 4 x11) 12 x12) 4 x12) 13 x13) 4 x13) 14 x14) 4 x14) 15 x15) 4 x15) w) (BK Tryd.prog .eql 9 (.tmp 3) (.const (Value.string { data := #[42] })) a0 (Value.string { data := #[42] }) w fun x16 w => CondK x16 (sx fn_ Tryd.prog 28 dispatcherref01_Sign_R0 (blkK 0 (seqK (sx fn_ Tryd.prog 28 dispatcherref01_Sign_R1 (retK Tryd.prog [ResultVar.tmp 2] R)) (retK Tryd.prog [ResultVar.tmp 2] R))) (up (up (up (up (up (up (up (up (up (up (up (up (up (up (up (up (up (up (up (up (up (up (up (up (up (up (rho0 [a0]) 2 (Value.bool false)) 3 a0) 5 x5) 4 x5) 6 x6) 4 x6) 7 x7) 4 x7) 8 x8) 4 x8) 9 x9) 4 x9) 10 x10) 4 x10) 11 x11) 4 x11) 12 x12) 4 x12) 13 x13) 4 x13) 14 x14) 4 x14) 15 x15) 4 x15) 16 x16) 4 x16) w) (BK Tryd.prog .eql 9 (.tmp 3) (.const (Value.string { data := #[47] })) a0 (Value.string { data := #[47] }) w fun x17 w => CondK x17 (sx fn_ Tryd.prog 28 dispatcherref01_Sign_R0 (blkK 0 (seqK (sx fn_ Tryd.prog 28 dispatcherref01_Sign_R1 (retK Tryd.prog [ResultVar.tmp 2] R)) (retK Tryd.prog [ResultVar.tmp 2] R))) (up (up (up (up (up (up (up (up (up (up (up (up (up (up (up (up (up (up (up (up (up (up (up (up (up (up (up (up (rho0 [a0]) 2 (Value.bool false)) 3 a0) 5 x5) 4 x5) 6 x6) 4 x6) 7 x7) 4 x7) 8 x8) 4 x8) 9 x9) 4 x9) 10 x10) 4 x10) 11 x11) 4 x11) 12 x12) 4 x12) 13 x13) 4 x13) 14 x14) 4 x14) 15 x15) 4 x15) 16 x16) 4 x16) 17 x17) 4 x17) w) (BK Tryd.prog .eql 9 (.tmp 3) (.const (Value.string { data := #[37] })) a0 (Value.string { data := #[37] }) w fun x18 w => CondK x18 (sx fn_ Tryd.prog 28 dispatcherref01_Sign_R0 (blkK 0 (seqK (sx fn_ Tryd.prog 28 dispatcherref01_Sign_R1 (retK Tryd.prog [ResultVar.tmp 2] R)) (retK Tryd.prog [ResultVar.tmp 2] R))) (up (up (up (up (up (up (up (up (up (up (up (up (up (up (up (up (up (up (up (up (up (up (up (up (up (up (up (up (up (up (rho0 [a0]) 2 (Value.bool false)) 3 a0) 5 x5) 4 x5) 6 x6) 4 x6) 7 x7) 4 x7) 8 x8) 4 x8) 9 x9) 4 x9) 10 x10) 4 x10) 11 x11) 4 x11) 12 x12) 4 x12) 13 x13) 4 x13) 14 x14) 4 x14) 15 x15) 4 x15) 16 x16) 4 x16) 17 x17) 4 x17) 18 x18) 4 x18) w) (BK Tryd.prog .eql 9 (.tmp 3) (.const (Value.string { data := #[60] })) a0 (Value.string { data := #[60] }) w fun x19 w => CondK x19 (sx fn_ Tryd.prog 28 dispatcherref01_Sign_R0 (blkK 0 (seqK (sx fn_ Tryd.prog 28 dispatcherref01_Sign_R1 (retK Tryd.prog [ResultVar.tmp 2] R)) (retK Tryd.prog [ResultVar.tmp 2] R))) (up (up (up (up (up (up (up (up (up (up (up (up (up (up (up (up (up (up (up (up (up (up (up (up (up (up (up (up (up (up (up (up (rho0 [a0]) 2 (Value.bool false)) 3 a0) 5 x5) 4 x5) 6 x6) 4 x6) 7 x7) 4 x7) 8 x8) 4 x8) 9 x9) 4 x9) 10 x10) 4 x10) 11 x11) 4 x11) 12 x12) 4 x12) 13 x13) 4 x13) 14 x14) 4 x14) 15 x15) 4 x15) 16 x16) 4 x16) 17 x17) 4 x17) 18 x18) 4 x18) 19 x19) 4 x19) w) (BK Tryd.prog .eql 9 (.tmp 3) (.const (Value.string { data := #[60, 61] })) a0 (Value.string { data := #[60, 61] }) w fun x20 w => CondK x20 (sx fn_ Tryd.prog 28 dispatcherref01_Sign_R0 (blkK 0 (seqK (sx fn_ Tryd.prog 28 dispatcherref01_Sign_R1 (retK Tryd.prog [ResultVar.tmp 2] R)) (retK Tryd.prog [ResultVar.tmp 2] R))) (up (up (up (up (up (up (up (up (up (up (up (up (up (up (up (up (up (up (up (up (up (up (up (up (up (up (up (up (up (up (up (up (up (up (rho0 [a0]) 2 (Value.bool false)) 3 a0) 5 x5) 4 x5) 6 x6) 4 x6) 7 x7) 4 x7) 8 x8) 4 x8) 9 x9) 4 x9) 10 x10) 4 x10) 11 x11) 4 x11) 12 x12) 4 x12) 13 x13) 4 x13) 14 x14) 4 x14) 15 x15) 4 x15) 16 x16) 4 x16) 17 x17) 4 x17) 18 x18) 4 x18) 19 x19) 4 x19) 20 x20) 4 x20) w) (BK Tryd.prog .eql 9 (.tmp 3) (.const (Value.string { data := #[62] })) a0 (Value.string { data := #[62] }) w fun x21 w => CondK x21 (sx fn_ Tryd.prog 28 dispatcherref01_Sign_R0 (blkK 0 (seqK (sx fn_ Tryd.prog 28 dispatcherref01_Sign_R1 (retK Tryd.prog [ResultVar.tmp 2] R)) (retK Tryd.prog [ResultVar.tmp 2] R))) (up (up (up (up (up (up (up (up (up (up (up (up (up (up (up (up (up (up (up (up (up (up (up (up (up (up (up (up (up (up (up (up (up (up (up (up (rho0 [a0]) 2 (Value.bool false)) 3 a0) 5 x5) 4 x5) 6 x6) 4 x6) 7 x7) 4 x7) 8 x8) 4 x8) 9 x9) 4 x9) 10 x10) 4 x10) 11 x11) 4 x11) 12 x12) 4 x12) 13 x13) 4 x13) 14 x14) 4 x14) 15 x15) 4 x15) 16 x16) 4 x16) 17 x17) 4 x17) 18 x18) 4 x18) 19 x19) 4 x19) 20 x20) 4 x20) 21 x21) 4 x21) w) (BK Tryd.prog .eql 9 (.tmp 3) (.const (Value.string { data := #[62, 61] })) a0 (Value.string { data := #[62, 61] }) w fun x22 w => CondK x22 (sx fn_ Tryd.prog 28 dispatcherref01_Sign_R0 (blkK 0 (seqK (sx fn_ Tryd.prog 28 dispatcherref01_Sign_R1 (retK Tryd.prog [ResultVar.tmp 2] R)) (retK Tryd.prog [ResultVar.tmp 2] R))) (up (up (up (up (up (up (up (up (up (up (up (up (up (up (up (up (up (up (up (up (up (up (up (up (up (up (up (up (up (up (up (up (up (up (up (up (up (up (rho0 [a0]) 2 (Value.bool false)) 3 a0) 5 x5) 4 x5) 6 x6) 4 x6) 7 x7) 4 x7) 8 x8) 4 x8) 9 x9) 4 x9) 10 x10) 4 x10) 11 x11) 4 x11) 12 x12) 4 x12) 13 x13) 4 x13) 14 x14) 4 x14) 15 x15) 4 x15) 16 x16) 4 x16) 17 x17) 4 x17) 18 x18) 4 x18) 19 x19) 4 x19) 20 x20) 4 x20) 21 x21) 4 x21) 22 x22) 4 x22) w) (BK Tryd.prog .eql 9 (.tmp 3) (.const (Value.string { data := #[61, 61] })) a0 (Value.string { data := #[61, 61] }) w fun x23 w => CondK x23 (sx fn_ Tryd.prog 28 dispatcherref01_Sign_R0 (blkK 0 (seqK (sx fn_ Tryd.prog 28 dispatcherref01_Sign_R1 (retK Tryd.prog [ResultVar.tmp 2] R)) (retK Tryd.prog [ResultVar.tmp 2] R))) (up (up (up (up (up (up (up (up (up (up (up (up (up (up (up (up (up (up (up (up (up (up (up (up (up (up (up (up (up (up (up (up (up (up (up (up (up (up (up (up (rho0 [a0]) 2 (Value.bool false)) 3 a0) 5 x5) 4 x5) 6 x6) 4 x6) 7 x7) 4 x7) 8 x8) 4 x8) 9 x9) 4 x9) 10 x10) 4 x10) 11 x11) 4 x11) 12 x12) 4 x12) 13 x13) 4 x13) 14 x14) 4 x14) 15 x15) 4 x15) 16 x16) 4 x16) 17 x17) 4 x17) 18 x18) 4 x18) 19 x19) 4 x19) 20 x20) 4 x20) 21 x21) 4 x21) 22 x22) 4 x22) 23 x23) 4 x23) w) (BK Tryd.prog .eql 9 (.tmp 3) (.const (Value.string { data := #[33, 61] })) a0 (Value.string { data := #[33, 61] }) w fun x24 w => CondK x24 (sx fn_ Tryd.prog 28 dispatcherref01_Sign_R0 (blkK 0 (seqK (sx fn_ Tryd.prog 28 dispatcherref01_Sign_R1 (retK Tryd.prog [ResultVar.tmp 2] R)) (retK Tryd.prog [ResultVar.tmp 2] R))) (up (up (up (up (up (up (up (up (up (up (up (up (up (up (up (up (up (up (up (up (up (up (up (up (up (up (up (up (up (up (up (up (up (up (up (up (up (up (up (up (up (up (rho0 [a0]) 2 (Value.bool false)) 3 a0) 5 x5) 4 x5) 6 x6) 4 x6) 7 x7) 4 x7) 8 x8) 4 x8) 9 x9) 4 x9) 10 x10) 4 x10) 11 x11) 4 x11) 12 x12) 4 x12) 13 x13) 4 x13) 14 x14) 4 x14) 15 x15) 4 x15) 16 x16) 4 x16) 17 x17) 4 x17) 18 x18) 4 x18) 19 x19) 4 x19) 20 x20) 4 x20) 21 x21) 4 x21) 22 x22) 4 x22) 23 x23) 4 x23) 24 x24) 4 x24) w) (BK Tryd.prog .eql 9 (.tmp 3) (.const (Value.string { data := #[38, 38] })) a0 (Value.string { data := #[38, 38] }) w fun x25 w => CondK x25 (sx fn_ Tryd.prog 28 dispatcherref01_Sign_R0 (blkK 0 (seqK (sx fn_ Tryd.prog 28 dispatcherref01_Sign_R1 (retK Tryd.prog [ResultVar.tmp 2] R)) (retK Tryd.prog [ResultVar.tmp 2] R))) (up (up (up (up (up (up (up (up (up (up (up (up (up (up (up (up (up (up (up (up (up (up (up (up (up (up (up (up (up (up (up (up (up (up (up (up (up (up (up (up (up (up (up (up (rho0 [a0]) 2 (Value.bool false)) 3 a0) 5 x5) 4 x5) 6 x6) 4 x6) 7 x7) 4 x7) 8 x8) 4 x8) 9 x9) 4 x9) 10 x10) 4 x10) 11 x11) 4 x11) 12 x12) 4 x12) 13 x13) 4 x13) 14 x14) 4 x14) 15 x15) 4 x15) 16 x16) 4 x16) 17 x17) 4 x17) 18 x18) 4 x18) 19 x19) 4 x19) 20 x20) 4 x20) 21 x21) 4 x21) 22 x22) 4 x22) 23 x23) 4 x23) 24 x24) 4 x24) 25 x25) 4 x25) w) (BK Tryd.prog .eql 9 (.tmp 3) (.const (Value.string { data := #[124, 124] })) a0 (Value.string { data := #[124, 124] }) w fun x26 w => CondK x26 (sx fn_ Tryd.prog 28 dispatcherref01_Sign_R0 (blkK 0 (seqK (sx fn_ Tryd.prog 28 dispatcherref01_Sign_R1 (retK Tryd.prog [ResultVar.tmp 2] R)) (retK Tryd.prog [ResultVar.tmp 2] R))) (up (up (up (up (up (up (up (up (up (up (up (up (up (up (up (up (up (up (up (up (up (up (up (up (up (up (up (up (up (up (up (up (up (up (up (up (up (up (up (up (up (up (up (up (up (up (rho0 [a0]) 2 (Value.bool false)) 3 a0) 5 x5) 4 x5) 6 x6) 4 x6) 7 x7) 4 x7) 8 x8) 4 x8) 9 x9) 4 x9) 10 x10) 4 x10) 11 x11) 4 x11) 12 x12) 4 x12) 13 x13) 4 x13) 14 x14) 4 x14) 15 x15) 4 x15) 16 x16) 4 x16) 17 x17) 4 x17) 18 x18) 4 x18) 19 x19) 4 x19) 20 x20) 4 x20) 21 x21) 4 x21) 22 x22) 4 x22) 23 x23) 4 x23) 24 x24) 4 x24) 25 x25) 4 x25) 26 x26) 4 x26) w) (BK Tryd.prog .eql 9 (.tmp 3) (.const (Value.string { data := #[33] })) a0 (Value.string { data := #[33] }) w fun x27 w => sx fn_ Tryd.prog 28 dispatcherref01_Sign_R0 (blkK 0 (seqK (sx fn_ Tryd.prog 28 dispatcherref01_Sign_R1 (retK Tryd.prog [ResultVar.tmp 2] R)) (retK Tryd.prog [ResultVar.tmp 2] R))) (up (up (up (up (up (up (up (up (up (up (up (up (up (up (up (up (up (up (up (up (up (up (up (up (up (up (up (up (up (up (up (up (up (up (up (up (up (up (up (up (up (up (up (up (up (up (up (up (rho0 [a0]) 2 (Value.bool false)) 3 a0) 5 x5) 4 x5) 6 x6) 4 x6) 7 x7) 4 x7) 8 x8) 4 x8) 9 x9) 4 x9) 10 x10) 4 x10) 11 x11) 4 x11) 12 x12) 4 x12) 13 x13) 4 x13) 14 x14) 4 x14) 15 x15) 4 x15) 16 x16) 4 x16) 17 x17) 4 x17) 18 x18) 4 x18) 19 x19) 4 x19) 20 x20) 4 x20) 21 x21) 4 x21) 22 x22) 4 x22) 23 x23) 4 x23) 24 x24) 4 x24) 25 x25) 4 x25) 26 x26) 4 x26) 27 x27) 4 x27) w))))))))))))))))))))))
theorem dispatcherref01_Sign_eq (a0 : Value) (w : World) (R : Value → World → Prop) : sx fn_ Tryd.prog 28 dispatcherref01_Sign_b (retK Tryd.prog Tryd.f63.results.toList R) (rho0 [a0]) w = dispatcherref01_Sign_F a0 w R := by kernel_rfl
theorem dispatcherref01_Sign_calls {a0 : Value} {w : World} {R : Value → World → Prop} (h : dispatcherref01_Sign_F a0 w R) : Calls Tryd.prog 63 #[a0] w fun e w' => ∃ v, e = .returned v ∧ R v w' :=
  Go.X.calls_of_sx (n := 28) (c := dispatcherref01_Sign_b) Tryd.func63 (by kernel_rfl) (by kernel_rfl) (Nat.le_of_ble_eq_true rfl) (by kernel_rfl) (Eq.mpr (dispatcherref01_Sign_eq a0 w R) h)
noncomputable def dispatcherref01_Number_b : Code := (Tryd.f64.body).getD .skip
noncomputable def dispatcherref01_Number_L0 : Code := cAt [1, 1, 1, 0, 1, 0, 0] dispatcherref01_Number_b
noncomputable def dispatcherref01_Number_R1 : Code := cAt [1, 1, 1, 1] dispatcherref01_Number_b
noncomputable def dispatcherref01_Number_L0_F (z : At) (K : Exit → Sl → World → Prop) (ρ : Sl) (w : World) : Prop :=
  IK Tryd.prog .len #[9] 3 [false] [(ρ 0)] w fun x26 w => BK Tryd.prog .lss 3 (.tmp 24) (.tmp 26) (ρ 5) x26 w fun x27 w => CondK x27 (VK Tryd.prog (Instr.index 9 (ρ 0) (ρ 5)) w fun x32 w => CK Tryd.prog (Value.func (Fn.func 62) #[] #[]) [x32] w fun x33 w => VK Tryd.prog (Op.unary UnOp.not x33) w fun x34 w => CondK x34 (K .ret (up (up (up (up (up (up (up (up (up (up (up ρ 24 (ρ 5)) 25 (ρ 0)) 26 x26) 27 x27) 30 (ρ 0)) 31 (ρ 5)) 32 x32) 33 x33) 34 x34) 2 (Value.int .i64 0)) 3 (Value.bool false)) w) (BK Tryd.prog .mul 2 (.const (Value.int .i64 10)) (.tmp 35) (Value.int .i64 10) (ρ 4) w fun x36 w => VK Tryd.prog (Instr.index 9 (ρ 0) (ρ 5)) w fun x39 w => BK Tryd.prog .sub 5 (.tmp 39) (.const (Value.int .u8 48)) x39 (Value.int .u8 48) w fun x40 w => VK Tryd.prog (convert 5 2 x40) w fun x41 w => BK Tryd.prog .add 2 (.tmp 36) (.tmp 41) x36 x41 w fun x42 w => BK Tryd.prog .add 3 (.tmp 28) (.const (Value.int .i64 1)) (ρ 5) (Value.int .i64 1) w fun x29 w => K .normal (up (up (up (up (up (up (up (up (up (up (up (up (up (up (up (up (up (up (up (up (up ρ 24 (ρ 5)) 25 (ρ 0)) 26 x26) 27 x27) 30 (ρ 0)) 31 (ρ 5)) 32 x32) 33 x33) 34 x34) 35 (ρ 4)) 36 x36) 37 (ρ 0)) 38 (ρ 5)) 39 x39) 40 x40) 41 x41) 42 x42) 4 x42) 28 (ρ 5)) 29 x29) 5 x29) w)) (K (.exit 0) (up (up (up (up ρ 24 (ρ 5)) 25 (ρ 0)) 26 x26) 27 x27) w)
theorem dispatcherref01_Number_L0_eq (z : At) (K : Exit → Sl → World → Prop) (ρ : Sl) (w : World) : sx z Tryd.prog 44 dispatcherref01_Number_L0 K ρ w = dispatcherref01_Number_L0_F z K ρ w := by kernel_rfl
theorem dispatcherref01_Number_L0_ok : dstOk 44 dispatcherref01_Number_L0 = true := by kernel_rfl
noncomputable def dispatcherref01_Number_R1_F (z : At) (K : Exit → Sl → World → Prop) (ρ : Sl) (w : World) : Prop :=
  K .ret (up (up (up ρ 43 (ρ 4)) 2 (ρ 4)) 3 (Value.bool true)) w
theorem dispatcherref01_Number_R1_eq (z : At) (K : Exit → Sl → World → Prop) (ρ : Sl) (w : World) : sx z Tryd.prog 44 dispatcherref01_Number_R1 K ρ w = dispatcherref01_Number_R1_F z K ρ w := by kernel_rfl
noncomputable def dispatcherref01_Number_F (a0 : Value) (w : World) (R : Value → World → Prop) : Prop :=
  IK Tryd.prog .len #[9] 3 [false] [a0] w fun x7 w => BK Tryd.prog .lss 3 (.tmp 7) (.const (Value.int .i64 1)) x7 (Value.int .i64 1) w fun x8 w => MG Tryd.prog x8 false a0 w fun x10 w => IG Tryd.prog x8 false .len #[9] 3 [false] [x10] w fun x11 w => BG Tryd.prog x8 false .gtr 3 (.tmp 11) (.const (Value.int .i64 18)) x11 (Value.int .i64 18) w fun x12 w => PK Tryd.prog x8 (Value.bool true) x12 w fun x13 w => MG Tryd.prog x13 false a0 w fun x15 w => VG Tryd.prog x13 false (Instr.index 9 x15 (Value.int .i64 0)) w fun x16 w => BG Tryd.prog x13 false .eql 5 (.tmp 16) (.const (Value.int .u8 48)) x16 (Value.int .u8 48) w fun x17 w => MG Tryd.prog x13 false x17 w fun x18 w => MG Tryd.prog x18 true a0 w fun x19 w => IG Tryd.prog x18 true .len #[9] 3 [false] [x19] w fun x20 w => BG Tryd.prog x18 true .gtr 3 (.tmp 20) (.const (Value.int .i64 1)) x20 (Value.int .i64 1) w fun x21 w => PG Tryd.prog x13 false x18 x21 (Value.bool false) w fun x22 w => PK Tryd.prog x13 (Value.bool true) x22 w fun x23 w => CondK x23 (R (Value.tuple #[(Value.int .i64 0), (Value.bool false)]) w) (W fn_ Tryd.prog 44 (Code.loop dispatcherref01_Number_L0) (blkK 0 (seqK (sx fn_ Tryd.prog 44 dispatcherref01_Number_R1 (retK Tryd.prog [ResultVar.tmp 2, ResultVar.tmp 3] R)) (retK Tryd.prog [ResultVar.tmp 2, ResultVar.tmp 3] R))) (up (up (up (up (up (up (up (up (up (up (up (up (up (up (up (up (up (up (up (up (up (up (rho0 [a0]) 2 (Value.int .i64 0)) 3 (Value.bool false)) 6 a0) 7 x7) 8 x8) 9 x8) 10 x10) 11 x11) 12 x12) 13 x13) 14 x13) 15 x15) 16 x16) 17 x17) 18 x18) 19 x19) 20 x20) 21 x21) 22 x22) 23 x23) 4 (Value.int .i64 0)) 5 (Value.int .i64 0)) w)
theorem dispatcherref01_Number_eq (a0 : Value) (w : World) (R : Value → World → Prop) : sx fn_ Tryd.prog 44 dispatcherref01_Number_b (retK Tryd.prog Tryd.f64.results.toList R) (rho0 [a0]) w = dispatcherref01_Number_F a0 w R := by kernel_rfl
theorem dispatcherref01_Number_calls {a0 : Value} {w : World} {R : Value → World → Prop} (h : dispatcherref01_Number_F a0 w R) : Calls Tryd.prog 64 #[a0] w fun e w' => ∃ v, e = .returned v ∧ R v w' :=
  Go.X.calls_of_sx (n := 44) (c := dispatcherref01_Number_b) Tryd.func64 (by kernel_rfl) (by kernel_rfl) (Nat.le_of_ble_eq_true rfl) (by kernel_rfl) (Eq.mpr (dispatcherref01_Number_eq a0 w R) h)
noncomputable def dispatcherref02_cursor_expr_b : Code := (Tryd.f68.body).getD .skip
noncomputable def dispatcherref02_cursor_expr_L0 : Code := cAt [1, 1, 1, 1, 0, 0, 0] dispatcherref02_cursor_expr_b
noncomputable def dispatcherref02_cursor_expr_R1 : Code := cAt [1, 1, 1, 1, 1] dispatcherref02_cursor_expr_b
noncomputable def dispatcherref02_cursor_expr_L0_F (z : At) (K : Exit → Sl → World → Prop) (ρ : Sl) (w : World) : Prop :=
  CK Tryd.prog (Value.func (Fn.func 42) #[] #[]) [(ρ 0)] w fun x24 w => CondK x24 (CK Tryd.prog (Value.func (Fn.func 38) #[] #[]) [(ρ 0)] w fun x26 w => VK Tryd.prog (Instr.alloc 75 true (.tuple #[])) w fun x6 w => UK Tryd.prog (Instr.storeAt 75 x6 x26) w fun _ w => VK Tryd.prog (Instr.fieldAt 75 x6 1) w fun x28 w => VK Tryd.prog (Instr.loadAt 9 x28) w fun x29 w => CK Tryd.prog (Value.func (Fn.func 83) #[] #[]) [x29] w fun x30 w => VK Tryd.prog (Instr.extract x30 0) w fun x31 w => VK Tryd.prog (Instr.extract x30 1) w fun x32 w => VK Tryd.prog (Instr.fieldAt 75 x6 0) w fun x33 w => VK Tryd.prog (Instr.loadAt 5 x33) w fun x34 w => BK Tryd.prog .eql 5 (.tmp 34) (.const (Value.int .u8 0)) x34 (Value.int .u8 0) w fun x35 w => MG Tryd.prog x35 false x31 w fun x37 w => BG Tryd.prog x35 false .eql 5 (.tmp 37) (.const (Value.int .u8 0)) x37 (Value.int .u8 0) w fun x38 w => PK Tryd.prog x35 (Value.bool true) x38 w fun x39 w => MG Tryd.prog x39 false x32 w fun x41 w => MG Tryd.prog x39 false (ρ 1) w fun x42 w => BG Tryd.prog x39 false .neq 3 (.tmp 41) (.tmp 42) x41 x42 w fun x43 w => PK Tryd.prog x39 (Value.bool true) x43 w fun x44 w => CondK x44 (VK Tryd.prog (Instr.loadAt 29 (ρ 5)) w fun x45 w => UK Tryd.prog (Instr.storeAt 29 (ρ 4) x45) w fun _ w => K .ret (up (up (up (up (up (up (up (up (up (up (up (up (up (up (up (up (up (up (up (up (up (up (up (up (up (up ρ 23 (ρ 0)) 24 x24) 25 (ρ 0)) 26 x26) 6 x6) 28 x28) 29 x29) 30 x30) 27 x30) 31 x31) 32 x32) 7 x31) 8 x32) 33 x33) 34 x34) 35 x35) 36 x35) 37 x37) 38 x38) 39 x39) 40 x39) 41 x41) 42 x42) 43 x43) 44 x44) 45 x45) w) (NK Tryd.prog (ρ 0) w fun x47 w => VK Tryd.prog (Instr.fieldAt 79 x47 1) w fun x48 w => VK Tryd.prog (Instr.loadAt 3 x48) w fun x49 w => BK Tryd.prog .add 3 (.tmp 49) (.const (Value.int .i64 1)) x49 (Value.int .i64 1) w fun x50 w => NK Tryd.prog (ρ 0) w fun x51 w => VK Tryd.prog (Instr.fieldAt 79 x51 1) w fun x52 w => UK Tryd.prog (Instr.storeAt 3 x52 x50) w fun _ w => BK Tryd.prog .add 3 (.tmp 54) (.const (Value.int .i64 1)) (ρ 1) (Value.int .i64 1) w fun x55 w => CK Tryd.prog (Value.func (Fn.func 68) #[] #[]) [(ρ 0), x55] w fun x56 w => VK Tryd.prog (Instr.alloc 29 true (.tuple #[])) w fun x9 w => UK Tryd.prog (Instr.storeAt 29 x9 x56) w fun _ w => VK Tryd.prog (Instr.fieldAt 75 x6 3) w fun x58 w => VK Tryd.prog (Instr.loadAt 3 x58) w fun x59 w => VK Tryd.prog (Instr.fieldAt 75 x6 4) w fun x60 w => VK Tryd.prog (Instr.loadAt 3 x60) w fun x61 w => VK Tryd.prog (Instr.build 29 [(0, x31), (4, x59), (5, x61)].toArray) w fun x62 w => VK Tryd.prog (Instr.alloc 29 true (.tuple #[])) w fun x10 w => UK Tryd.prog (Instr.storeAt 29 x10 x62) w fun _ w => VK Tryd.prog (Instr.fieldAt 29 x10 3) w fun x63 w => VK Tryd.prog (Instr.loadAt 22 x63) w fun x64 w => VK Tryd.prog (Instr.loadAt 29 (ρ 5)) w fun x65 w => VK Tryd.prog (Instr.loadAt 29 x9) w fun x66 w => VK Tryd.prog (Instr.buildSlice 22 2 [(0, x65), (1, x66)].toArray) w fun x67 w => IK Tryd.prog .append #[22, 22] 22 [false, false] [x64, x67] w fun x68 w => VK Tryd.prog (Instr.fieldAt 29 x10 3) w fun x69 w => UK Tryd.prog (Instr.storeAt 22 x69 x68) w fun _ w => VK Tryd.prog (Instr.loadAt 29 x10) w fun x70 w => UK Tryd.prog (Instr.storeAt 29 (ρ 5) x70) w fun _ w => BK Tryd.prog .eql 3 (.tmp 71) (.const (Value.int .i64 2)) (ρ 1) (Value.int .i64 2) w fun x72 w => CondK x72 (VK Tryd.prog (Instr.loadAt 29 (ρ 5)) w fun x73 w => UK Tryd.prog (Instr.storeAt 29 (ρ 4) x73) w fun _ w => K .ret (up (up (up (up (up (up (up (up (up (up (up (up (up (up (up (up (up (up (up (up (up (up (up (up (up (up (up (up (up (up (up (up (up (up (up (up (up (up (up (up (up (up (up (up (up (up (up (up (up (up (up (up (up (up (up ρ 23 (ρ 0)) 24 x24) 25 (ρ 0)) 26 x26) 6 x6) 28 x28) 29 x29) 30 x30) 27 x30) 31 x31) 32 x32) 7 x31) 8 x32) 33 x33) 34 x34) 35 x35) 36 x35) 37 x37) 38 x38) 39 x39) 40 x39) 41 x41) 42 x42) 43 x43) 44 x44) 46 (ρ 0)) 47 x47) 48 x48) 49 x49) 50 x50) 51 x51) 52 x52) 53 (ρ 0)) 54 (ρ 1)) 55 x55) 56 x56) 9 x9) 57 x31) 58 x58) 59 x59) 60 x60) 61 x61) 62 x62) 10 x10) 63 x63) 64 x64) 65 x65) 66 x66) 67 x67) 68 x68) 69 x69) 70 x70) 71 (ρ 1)) 72 x72) 73 x73) w) (K .normal (up (up (up (up (up (up (up (up (up (up (up (up (up (up (up (up (up (up (up (up (up (up (up (up (up (up (up (up (up (up (up (up (up (up (up (up (up (up (up (up (up (up (up (up (up (up (up (up (up (up (up (up (up (up ρ 23 (ρ 0)) 24 x24) 25 (ρ 0)) 26 x26) 6 x6) 28 x28) 29 x29) 30 x30) 27 x30) 31 x31) 32 x32) 7 x31) 8 x32) 33 x33) 34 x34) 35 x35) 36 x35) 37 x37) 38 x38) 39 x39) 40 x39) 41 x41) 42 x42) 43 x43) 44 x44) 46 (ρ 0)) 47 x47) 48 x48) 49 x49) 50 x50) 51 x51) 52 x52) 53 (ρ 0)) 54 (ρ 1)) 55 x55) 56 x56) 9 x9) 57 x31) 58 x58) 59 x59) 60 x60) 61 x61) 62 x62) 10 x10) 63 x63) 64 x64) 65 x65) 66 x66) 67 x67) 68 x68) 69 x69) 70 x70) 71 (ρ 1)) 72 x72) w))) (K (.exit 0) (up (up ρ 23 (ρ 0)) 24 x24) w)
theorem dispatcherref02_cursor_expr_L0_eq (z : At) (K : Exit → Sl → World → Prop) (ρ : Sl) (w : World) : sx z Tryd.prog 75 dispatcherref02_cursor_expr_L0 K ρ w = dispatcherref02_cursor_expr_L0_F z K ρ w := by kernel_rfl
theorem dispatcherref02_cursor_expr_L0_ok : dstOk 75 dispatcherref02_cursor_expr_L0 = true := by kernel_rfl
noncomputable def dispatcherref02_cursor_expr_F (a0 a1 : Value) (w : World) (R : Value → World → Prop) : Prop :=
  VK Tryd.prog (Instr.alloc 29 true (.tuple #[])) w fun x4 w => CK Tryd.prog (Value.func (Fn.func 42) #[] #[]) [a0] w fun x12 w => VK Tryd.prog (Op.unary UnOp.not x12) w fun x13 w => CondK x13 (VK Tryd.prog (Instr.build 29 [].toArray) w fun x14 w => UK Tryd.prog (Instr.storeAt 29 x4 x14) w fun _ w => ∃ x4_1, (do loadVar 29 (← asAddr x4) : Sem Value).run Tryd.prog w = .ok x4_1 w ∧ R x4_1 w) (BK Tryd.prog .gtr 3 (.tmp 15) (.const (Value.int .i64 4)) a1 (Value.int .i64 4) w fun x16 w => CondK x16 (CK Tryd.prog (Value.func (Fn.func 82) #[] #[]) [a0] w fun x18 w => UK Tryd.prog (Instr.storeAt 29 x4 x18) w fun _ w => ∃ x4_2, (do loadVar 29 (← asAddr x4) : Sem Value).run Tryd.prog w = .ok x4_2 w ∧ R x4_2 w) (BK Tryd.prog .add 3 (.tmp 20) (.const (Value.int .i64 1)) a1 (Value.int .i64 1) w fun x21 w => CK Tryd.prog (Value.func (Fn.func 68) #[] #[]) [a0, x21] w fun x22 w => VK Tryd.prog (Instr.alloc 29 true (.tuple #[])) w fun x5 w => UK Tryd.prog (Instr.storeAt 29 x5 x22) w fun _ w => W fn_ Tryd.prog 75 (Code.loop dispatcherref02_cursor_expr_L0) (blkK 0 (seqK (sx fn_ Tryd.prog 75 dispatcherref02_cursor_expr_R1 (retK Tryd.prog [ResultVar.cell 4 29] R)) (retK Tryd.prog [ResultVar.cell 4 29] R))) (up (up (up (up (up (up (up (up (up (up (up (rho0 [a0, a1]) 4 x4) 11 a0) 12 x12) 13 x13) 15 a1) 16 x16) 19 a0) 20 a1) 21 x21) 22 x22) 5 x5) w))
theorem dispatcherref02_cursor_expr_eq (a0 a1 : Value) (w : World) (R : Value → World → Prop) : sx fn_ Tryd.prog 75 dispatcherref02_cursor_expr_b (retK Tryd.prog Tryd.f68.results.toList R) (rho0 [a0, a1]) w = dispatcherref02_cursor_expr_F a0 a1 w R := by kernel_rfl
theorem dispatcherref02_cursor_expr_calls {a0 a1 : Value} {w : World} {R : Value → World → Prop} (h : dispatcherref02_cursor_expr_F a0 a1 w R) : Calls Tryd.prog 68 #[a0, a1] w fun e w' => ∃ v, e = .returned v ∧ R v w' :=
  Go.X.calls_of_sx (n := 75) (c := dispatcherref02_cursor_expr_b) Tryd.func68 (by kernel_rfl) (by kernel_rfl) (Nat.le_of_ble_eq_true rfl) (by kernel_rfl) (Eq.mpr (dispatcherref02_cursor_expr_eq a0 a1 w R) h)
noncomputable def dispatcherref02_cursor_block_b : Code := (Tryd.f69.body).getD .skip
noncomputable def dispatcherref02_cursor_block_L0 : Code := cAt [1, 1, 1, 0, 0, 0] dispatcherref02_cursor_block_b
noncomputable def dispatcherref02_cursor_block_R1 : Code := cAt [1, 1, 1, 1] dispatcherref02_cursor_block_b
noncomputable def dispatcherref02_cursor_block_L0_F (z : At) (K : Exit → Sl → World → Prop) (ρ : Sl) (w : World) : Prop :=
  CK Tryd.prog (Value.func (Fn.func 42) #[] #[]) [(ρ 0)] w fun x7 w => MG Tryd.prog x7 true (ρ 0) w fun x9 w => CG Tryd.prog x7 true (Value.func (Fn.func 37) #[] #[]) [x9, (Value.string { data := #[125] })] w fun x10 w => VG Tryd.prog x7 true (Op.unary UnOp.not x10) w fun x11 w => PK Tryd.prog x7 x11 (Value.bool false) w fun x12 w => CondK x12 (CK Tryd.prog (Value.func (Fn.func 43) #[] #[]) [(ρ 0)] w fun x15 w => VK Tryd.prog (Instr.buildSlice 23 1 [(0, x15)].toArray) w fun x16 w => IK Tryd.prog .append #[23, 23] 23 [false, false] [(ρ 3), x16] w fun x17 w => K .normal (up (up (up (up (up (up (up (up (up (up (up (up (up ρ 6 (ρ 0)) 7 x7) 8 x7) 9 x9) 10 x10) 11 x11) 12 x12) 13 (ρ 3)) 14 (ρ 0)) 15 x15) 16 x16) 17 x17) 3 x17) w) (K (.exit 0) (up (up (up (up (up (up (up ρ 6 (ρ 0)) 7 x7) 8 x7) 9 x9) 10 x10) 11 x11) 12 x12) w)
theorem dispatcherref02_cursor_block_L0_eq (z : At) (K : Exit → Sl → World → Prop) (ρ : Sl) (w : World) : sx z Tryd.prog 19 dispatcherref02_cursor_block_L0 K ρ w = dispatcherref02_cursor_block_L0_F z K ρ w := by kernel_rfl
theorem dispatcherref02_cursor_block_L0_ok : dstOk 19 dispatcherref02_cursor_block_L0 = true := by kernel_rfl
noncomputable def dispatcherref02_cursor_block_R1_F (z : At) (K : Exit → Sl → World → Prop) (ρ : Sl) (w : World) : Prop :=
  K .ret (up (up ρ 18 (ρ 3)) 2 (ρ 3)) w
theorem dispatcherref02_cursor_block_R1_eq (z : At) (K : Exit → Sl → World → Prop) (ρ : Sl) (w : World) : sx z Tryd.prog 19 dispatcherref02_cursor_block_R1 K ρ w = dispatcherref02_cursor_block_R1_F z K ρ w := by kernel_rfl
noncomputable def dispatcherref02_cursor_block_F (a0 : Value) (w : World) (R : Value → World → Prop) : Prop :=
  CK Tryd.prog (Value.func (Fn.func 41) #[] #[]) [a0, (Value.string { data := #[123] })] w fun x5 w => W fn_ Tryd.prog 19 (Code.loop dispatcherref02_cursor_block_L0) (blkK 0 (seqK (sx fn_ Tryd.prog 19 dispatcherref02_cursor_block_R1 (retK Tryd.prog [ResultVar.tmp 2] R)) (retK Tryd.prog [ResultVar.tmp 2] R))) (up (up (up (up (rho0 [a0]) 2 (Value.slice none 0 0)) 4 a0) 5 x5) 3 (Value.slice none 0 0)) w
theorem dispatcherref02_cursor_block_eq (a0 : Value) (w : World) (R : Value → World → Prop) : sx fn_ Tryd.prog 19 dispatcherref02_cursor_block_b (retK Tryd.prog Tryd.f69.results.toList R) (rho0 [a0]) w = dispatcherref02_cursor_block_F a0 w R := by kernel_rfl
theorem dispatcherref02_cursor_block_calls {a0 : Value} {w : World} {R : Value → World → Prop} (h : dispatcherref02_cursor_block_F a0 w R) : Calls Tryd.prog 69 #[a0] w fun e w' => ∃ v, e = .returned v ∧ R v w' :=
  Go.X.calls_of_sx (n := 19) (c := dispatcherref02_cursor_block_b) Tryd.func69 (by kernel_rfl) (by kernel_rfl) (Nat.le_of_ble_eq_true rfl) (by kernel_rfl) (Eq.mpr (dispatcherref02_cursor_block_eq a0 w R) h)
noncomputable def dispatcherref02_Call_b : Code := (Tryd.f70.body).getD .skip
noncomputable def dispatcherref02_Call_L0 : Code := cAt [1, 1, 0, 1, 0, 0] dispatcherref02_Call_b
noncomputable def dispatcherref02_Call_R1 : Code := cAt [1, 1, 1] dispatcherref02_Call_b
noncomputable def dispatcherref02_Call_L0_F (z : At) (K : Exit → Sl → World → Prop) (ρ : Sl) (w : World) : Prop :=
  IK Tryd.prog .len #[91] 3 [false] [(ρ 3)] w fun x8 w => BK Tryd.prog .lss 3 (.tmp 6) (.tmp 8) (ρ 4) x8 w fun x9 w => CondK x9 (VK Tryd.prog (Instr.indexAt 91 (ρ 3) (ρ 4)) w fun x14 w => VK Tryd.prog (Instr.loadAt 9 x14) w fun x15 w => BK Tryd.prog .eql 9 (.tmp 15) (.tmp 16) x15 (ρ 0) w fun x17 w => CondK x17 (BK Tryd.prog .add 3 (.tmp 18) (.const (Value.int .i64 1)) (ρ 4) (Value.int .i64 1) w fun x19 w => VK Tryd.prog (convert 3 5 x19) w fun x20 w => K .ret (up (up (up (up (up (up (up (up (up (up (up (up (up (up ρ 6 (ρ 4)) 7 (ρ 3)) 8 x8) 9 x9) 12 (ρ 3)) 13 (ρ 4)) 14 x14) 15 x15) 16 (ρ 0)) 17 x17) 18 (ρ 4)) 19 x19) 20 x20) 2 x20) w) (BK Tryd.prog .add 3 (.tmp 10) (.const (Value.int .i64 1)) (ρ 4) (Value.int .i64 1) w fun x11 w => K .normal (up (up (up (up (up (up (up (up (up (up (up (up (up ρ 6 (ρ 4)) 7 (ρ 3)) 8 x8) 9 x9) 12 (ρ 3)) 13 (ρ 4)) 14 x14) 15 x15) 16 (ρ 0)) 17 x17) 10 (ρ 4)) 11 x11) 4 x11) w)) (K (.exit 0) (up (up (up (up ρ 6 (ρ 4)) 7 (ρ 3)) 8 x8) 9 x9) w)
theorem dispatcherref02_Call_L0_eq (z : At) (K : Exit → Sl → World → Prop) (ρ : Sl) (w : World) : sx z Tryd.prog 21 dispatcherref02_Call_L0 K ρ w = dispatcherref02_Call_L0_F z K ρ w := by kernel_rfl
theorem dispatcherref02_Call_L0_ok : dstOk 21 dispatcherref02_Call_L0 = true := by kernel_rfl
noncomputable def dispatcherref02_Call_R1_F (z : At) (K : Exit → Sl → World → Prop) (ρ : Sl) (w : World) : Prop :=
  K .ret (up ρ 2 (Value.int .u8 0)) w
theorem dispatcherref02_Call_R1_eq (z : At) (K : Exit → Sl → World → Prop) (ρ : Sl) (w : World) : sx z Tryd.prog 21 dispatcherref02_Call_R1 K ρ w = dispatcherref02_Call_R1_F z K ρ w := by kernel_rfl
noncomputable def dispatcherref02_Call_F (a0 : Value) (w : World) (R : Value → World → Prop) : Prop :=
  VK Tryd.prog (Instr.buildSlice 91 22 [(0, (Value.string { data := #[115, 101, 110, 100] })), (1, (Value.string { data := #[115, 115, 101, 110, 100] })), (2, (Value.string { data := #[98, 115, 101, 110, 100] })), (3, (Value.string { data := #[105, 115, 101, 110, 100] })), (4, (Value.string { data := #[105, 115, 115, 101, 110, 100] })), (5, (Value.string { data := #[114, 101, 99, 118] })), (6, (Value.string { data := #[105, 114, 101, 99, 118] })), (7, (Value.string { data := #[119, 97, 105, 116] })), (8, (Value.string { data := #[119, 97, 105, 116, 97, 108, 108] })), (9, (Value.string { data := #[119, 97, 105, 116, 97, 110, 121] })), (10, (Value.string { data := #[116, 101, 115, 116] })), (11, (Value.string { data := #[116, 101, 115, 116, 97, 110, 121] })), (12, (Value.string { data := #[112, 114, 111, 98, 101] })), (13, (Value.string { data := #[105, 112, 114, 111, 98, 101] })), (14, (Value.string { data := #[98, 97, 114, 114, 105, 101, 114] })), (15, (Value.string { data := #[98, 99, 97, 115, 116] })), (16, (Value.string { data := #[114, 101, 100, 117, 99, 101] })), (17, (Value.string { data := #[97, 108, 108, 114, 101, 100, 117, 99, 101] })), (18, (Value.string { data := #[103, 97, 116, 104, 101, 114] })), (19, (Value.string { data := #[100, 117, 112] })), (20, (Value.string { data := #[115, 112, 108, 105, 116] })), (21, (Value.string { data := #[102, 114, 101, 101] }))].toArray) w fun x5 w => W fn_ Tryd.prog 21 (Code.loop dispatcherref02_Call_L0) (blkK 0 (seqK (sx fn_ Tryd.prog 21 dispatcherref02_Call_R1 (retK Tryd.prog [ResultVar.tmp 2] R)) (retK Tryd.prog [ResultVar.tmp 2] R))) (up (up (up (up (rho0 [a0]) 2 (Value.int .u8 0)) 5 x5) 3 x5) 4 (Value.int .i64 0)) w
theorem dispatcherref02_Call_eq (a0 : Value) (w : World) (R : Value → World → Prop) : sx fn_ Tryd.prog 21 dispatcherref02_Call_b (retK Tryd.prog Tryd.f70.results.toList R) (rho0 [a0]) w = dispatcherref02_Call_F a0 w R := by kernel_rfl
theorem dispatcherref02_Call_calls {a0 : Value} {w : World} {R : Value → World → Prop} (h : dispatcherref02_Call_F a0 w R) : Calls Tryd.prog 70 #[a0] w fun e w' => ∃ v, e = .returned v ∧ R v w' :=
  Go.X.calls_of_sx (n := 21) (c := dispatcherref02_Call_b) Tryd.func70 (by kernel_rfl) (by kernel_rfl) (Nat.le_of_ble_eq_true rfl) (by kernel_rfl) (Eq.mpr (dispatcherref02_Call_eq a0 w R) h)
noncomputable def dispatcherref02_cursor_call_b : Code := (Tryd.f71.body).getD .skip
noncomputable def dispatcherref02_cursor_call_R0 : Code := cAt [1, 1, 1, 1, 1] dispatcherref02_cursor_call_b
noncomputable def dispatcherref02_cursor_call_L1 : Code := cAt [1, 1, 1, 1, 0, 0, 0] dispatcherref02_cursor_call_b
noncomputable def dispatcherref02_cursor_call_R2 : Code := cAt [1, 1, 1, 1, 1, 1] dispatcherref02_cursor_call_b
noncomputable def dispatcherref02_cursor_call_R3 : Code := cAt [1, 1, 1, 1, 0, 0, 0, 1, 0, 1] dispatcherref02_cursor_call_b
noncomputable def dispatcherref02_cursor_call_R0_F (z : At) (K : Exit → Sl → World → Prop) (ρ : Sl) (w : World) : Prop :=
  VK Tryd.prog (Instr.fieldAt 25 (ρ 3) 1) w fun x57 w => VK Tryd.prog (Instr.loadAt 5 x57) w fun x58 w => CK Tryd.prog (Value.func (Fn.func 85) #[] #[]) [x58] w fun x59 w => CondK x59 (CK Tryd.prog (Value.func (Fn.func 41) #[] #[]) [(ρ 0), (Value.string { data := #[44] })] w fun x61 w => CK Tryd.prog (Value.func (Fn.func 38) #[] #[]) [(ρ 0)] w fun x63 w => VK Tryd.prog (Instr.alloc 75 true (.tuple #[])) w fun x9 w => UK Tryd.prog (Instr.storeAt 75 x9 x63) w fun _ w => VK Tryd.prog (Instr.fieldAt 75 x9 1) w fun x64 w => VK Tryd.prog (Instr.loadAt 9 x64) w fun x65 w => CK Tryd.prog (Value.func (Fn.func 86) #[] #[]) [x65] w fun x66 w => VK Tryd.prog (Instr.fieldAt 25 (ρ 3) 2) w fun x67 w => UK Tryd.prog (Instr.storeAt 5 x67 x66) w fun _ w => VK Tryd.prog (Instr.fieldAt 25 (ρ 3) 2) w fun x68 w => VK Tryd.prog (Instr.loadAt 5 x68) w fun x69 w => BK Tryd.prog .gtr 5 (.tmp 69) (.const (Value.int .u8 2)) x69 (Value.int .u8 2) w fun x70 w => CondK x70 (VK Tryd.prog (Instr.fieldAt 25 (ρ 3) 2) w fun x71 w => UK Tryd.prog (Instr.storeAt 5 x71 (Value.int .u8 0)) w fun _ w => CK Tryd.prog (Value.func (Fn.func 67) #[] #[]) [(ρ 0)] w fun x73 w => sx z Tryd.prog 84 dispatcherref02_cursor_call_R2 K (up (up (up (up (up (up (up (up (up (up (up (up (up (up (up (up (up (up ρ 57 x57) 58 x58) 59 x59) 60 (ρ 0)) 61 x61) 62 (ρ 0)) 63 x63) 9 x9) 64 x64) 65 x65) 66 x66) 67 x67) 68 x68) 69 x69) 70 x70) 71 x71) 72 (ρ 0)) 73 x73) w) (NK Tryd.prog (ρ 0) w fun x75 w => VK Tryd.prog (Instr.fieldAt 79 x75 1) w fun x76 w => VK Tryd.prog (Instr.loadAt 3 x76) w fun x77 w => BK Tryd.prog .add 3 (.tmp 77) (.const (Value.int .i64 1)) x77 (Value.int .i64 1) w fun x78 w => NK Tryd.prog (ρ 0) w fun x79 w => VK Tryd.prog (Instr.fieldAt 79 x79 1) w fun x80 w => UK Tryd.prog (Instr.storeAt 3 x80 x78) w fun _ w => sx z Tryd.prog 84 dispatcherref02_cursor_call_R2 K (up (up (up (up (up (up (up (up (up (up (up (up (up (up (up (up (up (up (up (up (up (up ρ 57 x57) 58 x58) 59 x59) 60 (ρ 0)) 61 x61) 62 (ρ 0)) 63 x63) 9 x9) 64 x64) 65 x65) 66 x66) 67 x67) 68 x68) 69 x69) 70 x70) 74 (ρ 0)) 75 x75) 76 x76) 77 x77) 78 x78) 79 x79) 80 x80) w)) (sx z Tryd.prog 84 dispatcherref02_cursor_call_R2 K (up (up (up ρ 57 x57) 58 x58) 59 x59) w)
theorem dispatcherref02_cursor_call_R0_eq (z : At) (K : Exit → Sl → World → Prop) (ρ : Sl) (w : World) : sx z Tryd.prog 84 dispatcherref02_cursor_call_R0 K ρ w = dispatcherref02_cursor_call_R0_F z K ρ w := by kernel_rfl
noncomputable def dispatcherref02_cursor_call_L1_F (z : At) (K : Exit → Sl → World → Prop) (ρ : Sl) (w : World) : Prop :=
  CK Tryd.prog (Value.func (Fn.func 42) #[] #[]) [(ρ 0)] w fun x25 w => VG Tryd.prog x25 true (Instr.fieldAt 25 (ρ 3) 5) w fun x27 w => VG Tryd.prog x25 true (Instr.loadAt 22 x27) w fun x28 w => IG Tryd.prog x25 true .len #[22] 3 [false] [x28] w fun x29 w => MG Tryd.prog x25 true (ρ 6) w fun x30 w => BG Tryd.prog x25 true .lss 3 (.tmp 29) (.tmp 30) x29 x30 w fun x31 w => PK Tryd.prog x25 x31 (Value.bool false) w fun x32 w => CondK x32 (VK Tryd.prog (Instr.fieldAt 25 (ρ 3) 5) w fun x33 w => VK Tryd.prog (Instr.loadAt 22 x33) w fun x34 w => IK Tryd.prog .len #[22] 3 [false] [x34] w fun x35 w => BK Tryd.prog .gtr 3 (.tmp 35) (.const (Value.int .i64 0)) x35 (Value.int .i64 0) w fun x36 w => CondK x36 (VK Tryd.prog (Instr.fieldAt 25 (ρ 3) 5) w fun x37 w => VK Tryd.prog (Instr.loadAt 22 x37) w fun x38 w => IK Tryd.prog .len #[22] 3 [false] [x38] w fun x39 w => BK Tryd.prog .geq 3 (.tmp 39) (.tmp 40) x39 (ρ 7) w fun x41 w => MG Tryd.prog x41 true (ρ 0) w fun x43 w => CG Tryd.prog x41 true (Value.func (Fn.func 38) #[] #[]) [x43] w fun x44 w => VG Tryd.prog x41 true (Instr.field 75 x44 1) w fun x45 w => BG Tryd.prog x41 true .eql 9 (.tmp 45) (.const (Value.string { data := #[41] })) x45 (Value.string { data := #[41] }) w fun x46 w => PK Tryd.prog x41 x46 (Value.bool false) w fun x47 w => CondK x47 (K (.exit 0) (up (up (up (up (up (up (up (up (up (up (up (up (up (up (up (up (up (up (up (up (up (up (up (up ρ 24 (ρ 0)) 25 x25) 26 x25) 27 x27) 28 x28) 29 x29) 30 x30) 31 x31) 32 x32) 33 x33) 34 x34) 35 x35) 36 x36) 37 x37) 38 x38) 39 x39) 40 (ρ 7)) 41 x41) 42 x41) 43 x43) 44 x44) 45 x45) 46 x46) 47 x47) w) (CK Tryd.prog (Value.func (Fn.func 41) #[] #[]) [(ρ 0), (Value.string { data := #[44] })] w fun x49 w => sx z Tryd.prog 84 dispatcherref02_cursor_call_R3 (blkK 1 K) (up (up (up (up (up (up (up (up (up (up (up (up (up (up (up (up (up (up (up (up (up (up (up (up (up (up ρ 24 (ρ 0)) 25 x25) 26 x25) 27 x27) 28 x28) 29 x29) 30 x30) 31 x31) 32 x32) 33 x33) 34 x34) 35 x35) 36 x36) 37 x37) 38 x38) 39 x39) 40 (ρ 7)) 41 x41) 42 x41) 43 x43) 44 x44) 45 x45) 46 x46) 47 x47) 48 (ρ 0)) 49 x49) w)) (sx z Tryd.prog 84 dispatcherref02_cursor_call_R3 (blkK 1 K) (up (up (up (up (up (up (up (up (up (up (up (up (up ρ 24 (ρ 0)) 25 x25) 26 x25) 27 x27) 28 x28) 29 x29) 30 x30) 31 x31) 32 x32) 33 x33) 34 x34) 35 x35) 36 x36) w)) (K (.exit 0) (up (up (up (up (up (up (up (up (up ρ 24 (ρ 0)) 25 x25) 26 x25) 27 x27) 28 x28) 29 x29) 30 x30) 31 x31) 32 x32) w)
theorem dispatcherref02_cursor_call_L1_eq (z : At) (K : Exit → Sl → World → Prop) (ρ : Sl) (w : World) : sx z Tryd.prog 84 dispatcherref02_cursor_call_L1 K ρ w = dispatcherref02_cursor_call_L1_F z K ρ w := by kernel_rfl
theorem dispatcherref02_cursor_call_L1_ok : dstOk 84 dispatcherref02_cursor_call_L1 = true := by kernel_rfl
noncomputable def dispatcherref02_cursor_call_R2_F (z : At) (K : Exit → Sl → World → Prop) (ρ : Sl) (w : World) : Prop :=
  CK Tryd.prog (Value.func (Fn.func 41) #[] #[]) [(ρ 0), (Value.string { data := #[41] })] w fun x82 w => VK Tryd.prog (Instr.loadAt 25 (ρ 3)) w fun x83 w => UK Tryd.prog (Instr.storeAt 25 (ρ 4) x83) w fun _ w => K .ret (up (up (up ρ 81 (ρ 0)) 82 x82) 83 x83) w
theorem dispatcherref02_cursor_call_R2_eq (z : At) (K : Exit → Sl → World → Prop) (ρ : Sl) (w : World) : sx z Tryd.prog 84 dispatcherref02_cursor_call_R2 K ρ w = dispatcherref02_cursor_call_R2_F z K ρ w := by kernel_rfl
noncomputable def dispatcherref02_cursor_call_R3_ops : Array Oper := opsOf dispatcherref02_cursor_call_R3
def dispatcherref02_cursor_call_R3_H (S : World → Prop) (K : Exit → Sl → World → Prop) (ρ : Sl) (w : World) : Prop :=
  HK Tryd.prog S (do pure (Next.value (← Instr.fieldAt 25 (ρ 3) 5))) fun x50 => (VK Tryd.prog (Instr.loadAt 22 x50) w fun x51 w => S w ∧ (CK Tryd.prog (Value.func (Fn.func 68) #[] #[]) [(ρ 0), (Value.int IntKind.i64 0)] w fun x53 w => S w ∧ (VK Tryd.prog (Instr.buildSlice 22 1 [(0, x53)].toArray) w fun x54 w => S w ∧ (IK Tryd.prog Builtin.append #[22, 22] 22 [false, false] [x51, x54] w fun x55 w => S w ∧ (HK Tryd.prog S (do pure (Next.value (← Instr.fieldAt 25 (ρ 3) 5))) fun x56 => UK Tryd.prog (Instr.storeAt 22 x56 x55) w fun _ w => S w ∧ (K Exit.normal (up (up (up (up (up (up (up ρ 50 x50) 52 (ρ 0)) 51 x51) 53 x53) 54 x54) 55 x55) 56 x56) w)))))) ∧ (CK Tryd.prog (Value.func (Fn.func 68) #[] #[]) [(ρ 0), (Value.int IntKind.i64 0)] w fun x53_1 w => S w ∧ ((VK Tryd.prog (Instr.loadAt 22 x50) w fun x51_1 w => S w ∧ (VK Tryd.prog (Instr.buildSlice 22 1 [(0, x53_1)].toArray) w fun x54_1 w => S w ∧ (IK Tryd.prog Builtin.append #[22, 22] 22 [false, false] [x51_1, x54_1] w fun x55_1 w => S w ∧ (HK Tryd.prog S (do pure (Next.value (← Instr.fieldAt 25 (ρ 3) 5))) fun x56_1 => UK Tryd.prog (Instr.storeAt 22 x56_1 x55_1) w fun _ w => S w ∧ (K Exit.normal (up (up (up (up (up (up (up ρ 50 x50) 52 (ρ 0)) 53 x53_1) 51 x51_1) 54 x54_1) 55 x55_1) 56 x56_1) w))))) ∧ (VK Tryd.prog (Instr.buildSlice 22 1 [(0, x53_1)].toArray) w fun x54_2 w => S w ∧ (VK Tryd.prog (Instr.loadAt 22 x50) w fun x51_2 w => S w ∧ (IK Tryd.prog Builtin.append #[22, 22] 22 [false, false] [x51_2, x54_2] w fun x55_2 w => S w ∧ (HK Tryd.prog S (do pure (Next.value (← Instr.fieldAt 25 (ρ 3) 5))) fun x56_2 => UK Tryd.prog (Instr.storeAt 22 x56_2 x55_2) w fun _ w => S w ∧ (K Exit.normal (up (up (up (up (up (up (up ρ 50 x50) 52 (ρ 0)) 53 x53_1) 54 x54_2) 51 x51_2) 55 x55_2) 56 x56_2) w)))))))
theorem dispatcherref02_cursor_call_R3_held {D : List Deferred} (S : World → Prop) {K : Exit → Sl → World → Prop} {ρ : Sl} {w : World} (hS : S { w with drawn := w.drawn + 1 }) (h : dispatcherref02_cursor_call_R3_H S K ρ { w with drawn := w.drawn + 1 }) : W ⟨none, D⟩ Tryd.prog 84 dispatcherref02_cursor_call_R3 K ρ w := by
  have e : dispatcherref02_cursor_call_R3 = .region (idOf dispatcherref02_cursor_call_R3) dispatcherref02_cursor_call_R3_ops true := by kernel_rfl
  have q : sxp Tryd.prog S dispatcherref02_cursor_call_R3_ops (K .normal) (Pl.take 0 (Pl.take 2 (Pl.two 1 3 (Pl.only 3 (Pl.only 4 (Pl.only 5 (Pl.take 6 (Pl.only 7 Pl.done))))) (Pl.two 1 4 (Pl.only 4 (Pl.only 5 (Pl.take 6 (Pl.only 7 Pl.done)))) (Pl.only 1 (Pl.only 5 (Pl.take 6 (Pl.only 7 Pl.done)))))))) ρ { w with drawn := w.drawn + 1 } = dispatcherref02_cursor_call_R3_H S K ρ { w with drawn := w.drawn + 1 } := by kernel_rfl
  rw [e]
  exact W_plan S (Pl.take 0 (Pl.take 2 (Pl.two 1 3 (Pl.only 3 (Pl.only 4 (Pl.only 5 (Pl.take 6 (Pl.only 7 Pl.done))))) (Pl.two 1 4 (Pl.only 4 (Pl.only 5 (Pl.take 6 (Pl.only 7 Pl.done)))) (Pl.only 1 (Pl.only 5 (Pl.take 6 (Pl.only 7 Pl.done)))))))) (by kernel_rfl) (by kernel_rfl) (by kernel_rfl) (by kernel_rfl) hS (Eq.mpr q h)
noncomputable def dispatcherref02_cursor_call_F (a0 a1 : Value) (w : World) (R : Value → World → Prop) : Prop :=
  VK Tryd.prog (Instr.box 25 a1) w fun x3 w => VK Tryd.prog (Instr.alloc 25 true (.tuple #[])) w fun x4 w => VK Tryd.prog (Instr.fieldAt 25 x3 1) w fun x11 w => VK Tryd.prog (Instr.loadAt 5 x11) w fun x12 w => CK Tryd.prog (Value.func (Fn.func 84) #[] #[]) [x12] w fun x13 w => VK Tryd.prog (Instr.extract x13 0) w fun x14 w => VK Tryd.prog (Instr.extract x13 1) w fun x15 w => VK Tryd.prog (Instr.fieldAt 25 x3 1) w fun x17 w => VK Tryd.prog (Instr.loadAt 5 x17) w fun x18 w => CK Tryd.prog (Value.func (Fn.func 84) #[] #[]) [x18] w fun x19 w => VK Tryd.prog (Instr.extract x19 0) w fun x20 w => VK Tryd.prog (Instr.extract x19 1) w fun x21 w => CK Tryd.prog (Value.func (Fn.func 41) #[] #[]) [a0, (Value.string { data := #[40] })] w fun x23 w => W fn_ Tryd.prog 84 (Code.loop dispatcherref02_cursor_call_L1) (blkK 0 (seqK (sx fn_ Tryd.prog 84 dispatcherref02_cursor_call_R0 (retK Tryd.prog [ResultVar.cell 4 25] R)) (retK Tryd.prog [ResultVar.cell 4 25] R))) (up (up (up (up (up (up (up (up (up (up (up (up (up (up (up (up (up (up (up (up (rho0 [a0, a1]) 3 x3) 4 x4) 11 x11) 12 x12) 13 x13) 10 x13) 14 x14) 15 x15) 5 x14) 6 x15) 17 x17) 18 x18) 19 x19) 16 x19) 20 x20) 21 x21) 7 x20) 8 x21) 22 a0) 23 x23) w
theorem dispatcherref02_cursor_call_eq (a0 a1 : Value) (w : World) (R : Value → World → Prop) : sx fn_ Tryd.prog 84 dispatcherref02_cursor_call_b (retK Tryd.prog Tryd.f71.results.toList R) (rho0 [a0, a1]) w = dispatcherref02_cursor_call_F a0 a1 w R := by kernel_rfl
theorem dispatcherref02_cursor_call_calls {a0 a1 : Value} {w : World} {R : Value → World → Prop} (h : dispatcherref02_cursor_call_F a0 a1 w R) : Calls Tryd.prog 71 #[a0, a1] w fun e w' => ∃ v, e = .returned v ∧ R v w' :=
  Go.X.calls_of_sx (n := 84) (c := dispatcherref02_cursor_call_b) Tryd.func71 (by kernel_rfl) (by kernel_rfl) (Nat.le_of_ble_eq_true rfl) (by kernel_rfl) (Eq.mpr (dispatcherref02_cursor_call_eq a0 a1 w R) h)
noncomputable def dispatcherref02_cursor_single_b : Code := (Tryd.f82.body).getD .skip
noncomputable def dispatcherref02_cursor_single_R0 : Code := cAt [1, 1, 1, 1, 0, 0, 1, 1, 1, 0, 1, 1, 1, 0] dispatcherref02_cursor_single_b
noncomputable def dispatcherref02_cursor_single_R1 : Code := cAt [1, 1, 1, 1, 0, 0, 1, 1, 1, 0, 1, 1, 1, 1] dispatcherref02_cursor_single_b
noncomputable def dispatcherref02_cursor_single_R2 : Code := cAt [1, 1, 1, 1, 1] dispatcherref02_cursor_single_b
noncomputable def dispatcherref02_cursor_single_R3 : Code := cAt [1, 1, 1, 1, 0, 0, 1, 1, 1, 1, 1, 1, 1, 0, 1, 0] dispatcherref02_cursor_single_b
noncomputable def dispatcherref02_cursor_single_R4 : Code := cAt [1, 1, 1, 1, 0, 0, 1, 1, 1, 1, 1, 1, 1, 0, 1, 1] dispatcherref02_cursor_single_b
noncomputable def dispatcherref02_cursor_single_R5 : Code := cAt [1, 1, 1, 1, 0, 0, 1, 1, 1, 1, 1, 1, 1, 1, 1, 0, 0] dispatcherref02_cursor_single_b
noncomputable def dispatcherref02_cursor_single_R6 : Code := cAt [1, 1, 1, 1, 0, 0, 1, 1, 1, 1, 1, 1, 1, 1, 1, 0, 1] dispatcherref02_cursor_single_b
noncomputable def dispatcherref02_cursor_single_R7 : Code := cAt [1, 1, 1, 1, 0, 0, 1, 1, 1, 1, 1, 1, 1, 1, 1, 1, 1, 0, 0] dispatcherref02_cursor_single_b
noncomputable def dispatcherref02_cursor_single_R8 : Code := cAt [1, 1, 1, 1, 0, 0, 1, 1, 1, 1, 1, 1, 1, 1, 1, 1, 1, 0, 1] dispatcherref02_cursor_single_b
noncomputable def dispatcherref02_cursor_single_R3_ops : Array Oper := opsOf dispatcherref02_cursor_single_R3
def dispatcherref02_cursor_single_R3_H (S : World → Prop) (K : Exit → Sl → World → Prop) (ρ : Sl) (w : World) : Prop :=
  (VK Tryd.prog (Instr.loadAt 29 (ρ 4)) w fun x86_1 w => S w ∧ (CK Tryd.prog (Value.func (Fn.func 68) #[] #[]) [(ρ 0), (Value.int IntKind.i64 0)] w fun x88_1 w => S w ∧ (CK Tryd.prog (Value.func (Fn.func 94) #[] #[]) [x86_1, (Value.int IntKind.u8 4), x88_1] w fun x89_1 w => S w ∧ (UK Tryd.prog (Instr.storeAt 29 (ρ 4) x89_1) w fun _ w => S w ∧ (K Exit.normal (up (up (up (up ρ 87 (ρ 0)) 86 x86_1) 88 x88_1) 89 x89_1) w))))) ∧ (CK Tryd.prog (Value.func (Fn.func 68) #[] #[]) [(ρ 0), (Value.int IntKind.i64 0)] w fun x88_2 w => S w ∧ (VK Tryd.prog (Instr.loadAt 29 (ρ 4)) w fun x86_2 w => S w ∧ (CK Tryd.prog (Value.func (Fn.func 94) #[] #[]) [x86_2, (Value.int IntKind.u8 4), x88_2] w fun x89_2 w => S w ∧ (UK Tryd.prog (Instr.storeAt 29 (ρ 4) x89_2) w fun _ w => S w ∧ (K Exit.normal (up (up (up (up ρ 87 (ρ 0)) 88 x88_2) 86 x86_2) 89 x89_2) w)))))
theorem dispatcherref02_cursor_single_R3_held {D : List Deferred} (S : World → Prop) {K : Exit → Sl → World → Prop} {ρ : Sl} {w : World} (hS : S { w with drawn := w.drawn + 1 }) (h : dispatcherref02_cursor_single_R3_H S K ρ { w with drawn := w.drawn + 1 }) : W ⟨none, D⟩ Tryd.prog 118 dispatcherref02_cursor_single_R3 K ρ w := by
  have e : dispatcherref02_cursor_single_R3 = .region (idOf dispatcherref02_cursor_single_R3) dispatcherref02_cursor_single_R3_ops true := by kernel_rfl
  have q : sxp Tryd.prog S dispatcherref02_cursor_single_R3_ops (K .normal) (Pl.take 1 (Pl.two 0 2 (Pl.only 2 (Pl.only 3 (Pl.only 4 Pl.done))) (Pl.only 0 (Pl.only 3 (Pl.only 4 Pl.done))))) ρ { w with drawn := w.drawn + 1 } = dispatcherref02_cursor_single_R3_H S K ρ { w with drawn := w.drawn + 1 } := by kernel_rfl
  rw [e]
  exact W_plan S (Pl.take 1 (Pl.two 0 2 (Pl.only 2 (Pl.only 3 (Pl.only 4 Pl.done))) (Pl.only 0 (Pl.only 3 (Pl.only 4 Pl.done))))) (by kernel_rfl) (by kernel_rfl) (by kernel_rfl) (by kernel_rfl) hS (Eq.mpr q h)
noncomputable def dispatcherref02_cursor_single_R4_F (z : At) (K : Exit → Sl → World → Prop) (ρ : Sl) (w : World) : Prop :=
  CK Tryd.prog (Value.func (Fn.func 41) #[] #[]) [(ρ 0), (Value.string { data := #[93] })] w fun x91 w => VK Tryd.prog (Instr.loadAt 29 (ρ 4)) w fun x92 w => UK Tryd.prog (Instr.storeAt 29 (ρ 2) x92) w fun _ w => K .ret (up (up (up ρ 90 (ρ 0)) 91 x91) 92 x92) w
theorem dispatcherref02_cursor_single_R4_eq (z : At) (K : Exit → Sl → World → Prop) (ρ : Sl) (w : World) : sx z Tryd.prog 118 dispatcherref02_cursor_single_R4 K ρ w = dispatcherref02_cursor_single_R4_F z K ρ w := by kernel_rfl
noncomputable def dispatcherref02_cursor_single_F (a0 : Value) (w : World) (R : Value → World → Prop) : Prop :=
  VK Tryd.prog (Instr.alloc 29 true (.tuple #[])) w fun x2 w => CK Tryd.prog (Value.func (Fn.func 38) #[] #[]) [a0] w fun x6 w => VK Tryd.prog (Instr.alloc 75 true (.tuple #[])) w fun x3 w => UK Tryd.prog (Instr.storeAt 75 x3 x6) w fun _ w => VK Tryd.prog (Instr.fieldAt 75 x3 3) w fun x7 w => VK Tryd.prog (Instr.loadAt 3 x7) w fun x8 w => VK Tryd.prog (Instr.fieldAt 75 x3 4) w fun x9 w => VK Tryd.prog (Instr.loadAt 3 x9) w fun x10 w => VK Tryd.prog (Instr.build 29 [(4, x8), (5, x10)].toArray) w fun x11 w => VK Tryd.prog (Instr.alloc 29 true (.tuple #[])) w fun x4 w => UK Tryd.prog (Instr.storeAt 29 x4 x11) w fun _ w => CK Tryd.prog (Value.func (Fn.func 42) #[] #[]) [a0] w fun x13 w => VK Tryd.prog (Op.unary UnOp.not x13) w fun x14 w => VG Tryd.prog x14 false (Instr.fieldAt 75 x3 0) w fun x16 w => VG Tryd.prog x14 false (Instr.loadAt 5 x16) w fun x17 w => BG Tryd.prog x14 false .eql 5 (.tmp 17) (.const (Value.int .u8 0)) x17 (Value.int .u8 0) w fun x18 w => PK Tryd.prog x14 (Value.bool true) x18 w fun x19 w => CondK x19 (CK Tryd.prog (Value.func (Fn.func 67) #[] #[]) [a0] w fun x21 w => VK Tryd.prog (Instr.loadAt 29 x4) w fun x22 w => UK Tryd.prog (Instr.storeAt 29 x2 x22) w fun _ w => ∃ x2_1, (do loadVar 29 (← asAddr x2) : Sem Value).run Tryd.prog w = .ok x2_1 w ∧ R x2_1 w) (VK Tryd.prog (Instr.fieldAt 75 x3 0) w fun x24 w => VK Tryd.prog (Instr.loadAt 5 x24) w fun x25 w => BK Tryd.prog .eql 5 (.tmp 25) (.const (Value.int .u8 2)) x25 (Value.int .u8 2) w fun x26 w => CondK x26 (NK Tryd.prog a0 w fun x28 w => VK Tryd.prog (Instr.fieldAt 79 x28 1) w fun x29 w => VK Tryd.prog (Instr.loadAt 3 x29) w fun x30 w => BK Tryd.prog .add 3 (.tmp 30) (.const (Value.int .i64 1)) x30 (Value.int .i64 1) w fun x31 w => NK Tryd.prog a0 w fun x32 w => VK Tryd.prog (Instr.fieldAt 79 x32 1) w fun x33 w => UK Tryd.prog (Instr.storeAt 3 x33 x31) w fun _ w => VK Tryd.prog (Instr.fieldAt 29 x4 0) w fun x34 w => UK Tryd.prog (Instr.storeAt 5 x34 (Value.int .u8 1)) w fun _ w => VK Tryd.prog (Instr.fieldAt 75 x3 2) w fun x35 w => VK Tryd.prog (Instr.loadAt 2 x35) w fun x36 w => VK Tryd.prog (Instr.fieldAt 29 x4 1) w fun x37 w => UK Tryd.prog (Instr.storeAt 2 x37 x36) w fun _ w => VK Tryd.prog (Instr.loadAt 29 x4) w fun x38 w => UK Tryd.prog (Instr.storeAt 29 x2 x38) w fun _ w => ∃ x2_2, (do loadVar 29 (← asAddr x2) : Sem Value).run Tryd.prog w = .ok x2_2 w ∧ R x2_2 w) (VK Tryd.prog (Instr.fieldAt 75 x3 0) w fun x40 w => VK Tryd.prog (Instr.loadAt 5 x40) w fun x41 w => BK Tryd.prog .eql 5 (.tmp 41) (.const (Value.int .u8 1)) x41 (Value.int .u8 1) w fun x42 w => CondK x42 (NK Tryd.prog a0 w fun x44 w => VK Tryd.prog (Instr.fieldAt 79 x44 1) w fun x45 w => VK Tryd.prog (Instr.loadAt 3 x45) w fun x46 w => BK Tryd.prog .add 3 (.tmp 46) (.const (Value.int .i64 1)) x46 (Value.int .i64 1) w fun x47 w => NK Tryd.prog a0 w fun x48 w => VK Tryd.prog (Instr.fieldAt 79 x48 1) w fun x49 w => UK Tryd.prog (Instr.storeAt 3 x49 x47) w fun _ w => VK Tryd.prog (Instr.fieldAt 75 x3 1) w fun x50 w => VK Tryd.prog (Instr.loadAt 9 x50) w fun x51 w => VK Tryd.prog (Instr.fieldAt 29 x4 2) w fun x52 w => UK Tryd.prog (Instr.storeAt 9 x52 x51) w fun _ w => CK Tryd.prog (Value.func (Fn.func 37) #[] #[]) [a0, (Value.string { data := #[91] })] w fun x54 w => VK Tryd.prog (Op.unary UnOp.not x54) w fun x55 w => CondK x55 (VK Tryd.prog (Instr.fieldAt 29 x4 0) w fun x56 w => UK Tryd.prog (Instr.storeAt 5 x56 (Value.int .u8 2)) w fun _ w => VK Tryd.prog (Instr.loadAt 29 x4) w fun x57 w => UK Tryd.prog (Instr.storeAt 29 x2 x57) w fun _ w => ∃ x2_3, (do loadVar 29 (← asAddr x2) : Sem Value).run Tryd.prog w = .ok x2_3 w ∧ R x2_3 w) (W fn_ Tryd.prog 118 dispatcherref02_cursor_single_R0 (seqK (sx fn_ Tryd.prog 118 dispatcherref02_cursor_single_R1 (blkK 0 (seqK (sx fn_ Tryd.prog 118 dispatcherref02_cursor_single_R2 (retK Tryd.prog [ResultVar.cell 2 29] R)) (retK Tryd.prog [ResultVar.cell 2 29] R)))) (blkK 0 (seqK (sx fn_ Tryd.prog 118 dispatcherref02_cursor_single_R2 (retK Tryd.prog [ResultVar.cell 2 29] R)) (retK Tryd.prog [ResultVar.cell 2 29] R)))) (up (up (up (up (up (up (up (up (up (up (up (up (up (up (up (up (up (up (up (up (up (up (up (up (up (up (up (up (up (up (up (up (up (up (up (up (up (up (up (rho0 [a0]) 2 x2) 5 a0) 6 x6) 3 x3) 7 x7) 8 x8) 9 x9) 10 x10) 11 x11) 4 x4) 12 a0) 13 x13) 14 x14) 15 x14) 16 x16) 17 x17) 18 x18) 19 x19) 24 x24) 25 x25) 26 x26) 23 x26) 40 x40) 41 x41) 42 x42) 39 x42) 43 a0) 44 x44) 45 x45) 46 x46) 47 x47) 48 x48) 49 x49) 50 x50) 51 x51) 52 x52) 53 a0) 54 x54) 55 x55) w)) (VK Tryd.prog (Instr.fieldAt 75 x3 1) w fun x66 w => VK Tryd.prog (Instr.loadAt 9 x66) w fun x67 w => CK Tryd.prog (Value.func (Fn.func 95) #[] #[]) [x67] w fun x68 w => CondK x68 (NK Tryd.prog a0 w fun x70 w => VK Tryd.prog (Instr.fieldAt 79 x70 1) w fun x71 w => VK Tryd.prog (Instr.loadAt 3 x71) w fun x72 w => BK Tryd.prog .add 3 (.tmp 72) (.const (Value.int .i64 1)) x72 (Value.int .i64 1) w fun x73 w => NK Tryd.prog a0 w fun x74 w => VK Tryd.prog (Instr.fieldAt 79 x74 1) w fun x75 w => UK Tryd.prog (Instr.storeAt 3 x75 x73) w fun _ w => VK Tryd.prog (Instr.fieldAt 29 x4 0) w fun x76 w => UK Tryd.prog (Instr.storeAt 5 x76 (Value.int .u8 5)) w fun _ w => VK Tryd.prog (Instr.fieldAt 75 x3 1) w fun x77 w => VK Tryd.prog (Instr.loadAt 9 x77) w fun x78 w => VK Tryd.prog (Instr.fieldAt 29 x4 2) w fun x79 w => UK Tryd.prog (Instr.storeAt 9 x79 x78) w fun _ w => VK Tryd.prog (Instr.loadAt 29 x4) w fun x80 w => UK Tryd.prog (Instr.storeAt 29 x2 x80) w fun _ w => ∃ x2_4, (do loadVar 29 (← asAddr x2) : Sem Value).run Tryd.prog w = .ok x2_4 w ∧ R x2_4 w) (CK Tryd.prog (Value.func (Fn.func 37) #[] #[]) [a0, (Value.string { data := #[114, 111, 119] })] w fun x83 w => CondK x83 (CK Tryd.prog (Value.func (Fn.func 41) #[] #[]) [a0, (Value.string { data := #[91] })] w fun x85 w => W fn_ Tryd.prog 118 dispatcherref02_cursor_single_R3 (seqK (sx fn_ Tryd.prog 118 dispatcherref02_cursor_single_R4 (blkK 0 (seqK (sx fn_ Tryd.prog 118 dispatcherref02_cursor_single_R2 (retK Tryd.prog [ResultVar.cell 2 29] R)) (retK Tryd.prog [ResultVar.cell 2 29] R)))) (blkK 0 (seqK (sx fn_ Tryd.prog 118 dispatcherref02_cursor_single_R2 (retK Tryd.prog [ResultVar.cell 2 29] R)) (retK Tryd.prog [ResultVar.cell 2 29] R)))) (up (up (up (up (up (up (up (up (up (up (up (up (up (up (up (up (up (up (up (up (up (up (up (up (up (up (up (up (up (up (up (up (up (up (up (rho0 [a0]) 2 x2) 5 a0) 6 x6) 3 x3) 7 x7) 8 x8) 9 x9) 10 x10) 11 x11) 4 x4) 12 a0) 13 x13) 14 x14) 15 x14) 16 x16) 17 x17) 18 x18) 19 x19) 24 x24) 25 x25) 26 x26) 23 x26) 40 x40) 41 x41) 42 x42) 39 x42) 66 x66) 67 x67) 68 x68) 65 x68) 82 a0) 83 x83) 81 x83) 84 a0) 85 x85) w) (CK Tryd.prog (Value.func (Fn.func 37) #[] #[]) [a0, (Value.string { data := #[45] })] w fun x95 w => CondK x95 (W fn_ Tryd.prog 118 dispatcherref02_cursor_single_R5 (seqK (sx fn_ Tryd.prog 118 dispatcherref02_cursor_single_R6 (blkK 0 (seqK (sx fn_ Tryd.prog 118 dispatcherref02_cursor_single_R2 (retK Tryd.prog [ResultVar.cell 2 29] R)) (retK Tryd.prog [ResultVar.cell 2 29] R)))) (blkK 0 (seqK (sx fn_ Tryd.prog 118 dispatcherref02_cursor_single_R2 (retK Tryd.prog [ResultVar.cell 2 29] R)) (retK Tryd.prog [ResultVar.cell 2 29] R)))) (up (up (up (up (up (up (up (up (up (up (up (up (up (up (up (up (up (up (up (up (up (up (up (up (up (up (up (up (up (up (up (up (up (up (up (up (rho0 [a0]) 2 x2) 5 a0) 6 x6) 3 x3) 7 x7) 8 x8) 9 x9) 10 x10) 11 x11) 4 x4) 12 a0) 13 x13) 14 x14) 15 x14) 16 x16) 17 x17) 18 x18) 19 x19) 24 x24) 25 x25) 26 x26) 23 x26) 40 x40) 41 x41) 42 x42) 39 x42) 66 x66) 67 x67) 68 x68) 65 x68) 82 a0) 83 x83) 81 x83) 94 a0) 95 x95) 93 x95) w) (CK Tryd.prog (Value.func (Fn.func 37) #[] #[]) [a0, (Value.string { data := #[33] })] w fun x102 w => CondK x102 (W fn_ Tryd.prog 118 dispatcherref02_cursor_single_R7 (seqK (sx fn_ Tryd.prog 118 dispatcherref02_cursor_single_R8 (blkK 0 (seqK (sx fn_ Tryd.prog 118 dispatcherref02_cursor_single_R2 (retK Tryd.prog [ResultVar.cell 2 29] R)) (retK Tryd.prog [ResultVar.cell 2 29] R)))) (blkK 0 (seqK (sx fn_ Tryd.prog 118 dispatcherref02_cursor_single_R2 (retK Tryd.prog [ResultVar.cell 2 29] R)) (retK Tryd.prog [ResultVar.cell 2 29] R)))) (up (up (up (up (up (up (up (up (up (up (up (up (up (up (up (up (up (up (up (up (up (up (up (up (up (up (up (up (up (up (up (up (up (up (up (up (up (up (up (rho0 [a0]) 2 x2) 5 a0) 6 x6) 3 x3) 7 x7) 8 x8) 9 x9) 10 x10) 11 x11) 4 x4) 12 a0) 13 x13) 14 x14) 15 x14) 16 x16) 17 x17) 18 x18) 19 x19) 24 x24) 25 x25) 26 x26) 23 x26) 40 x40) 41 x41) 42 x42) 39 x42) 66 x66) 67 x67) 68 x68) 65 x68) 82 a0) 83 x83) 81 x83) 94 a0) 95 x95) 93 x95) 101 a0) 102 x102) 100 x102) w) (CK Tryd.prog (Value.func (Fn.func 37) #[] #[]) [a0, (Value.string { data := #[40] })] w fun x109 w => CondK x109 (CK Tryd.prog (Value.func (Fn.func 68) #[] #[]) [a0, (Value.int .i64 0)] w fun x111 w => UK Tryd.prog (Instr.storeAt 29 x4 x111) w fun _ w => CK Tryd.prog (Value.func (Fn.func 41) #[] #[]) [a0, (Value.string { data := #[41] })] w fun x113 w => VK Tryd.prog (Instr.loadAt 29 x4) w fun x114 w => UK Tryd.prog (Instr.storeAt 29 x2 x114) w fun _ w => ∃ x2_5, (do loadVar 29 (← asAddr x2) : Sem Value).run Tryd.prog w = .ok x2_5 w ∧ R x2_5 w) (CK Tryd.prog (Value.func (Fn.func 67) #[] #[]) [a0] w fun x116 w => VK Tryd.prog (Instr.loadAt 29 x4) w fun x117 w => UK Tryd.prog (Instr.storeAt 29 x2 x117) w fun _ w => ∃ x2_6, (do loadVar 29 (← asAddr x2) : Sem Value).run Tryd.prog w = .ok x2_6 w ∧ R x2_6 w))))))))
theorem dispatcherref02_cursor_single_eq (a0 : Value) (w : World) (R : Value → World → Prop) : sx fn_ Tryd.prog 118 dispatcherref02_cursor_single_b (retK Tryd.prog Tryd.f82.results.toList R) (rho0 [a0]) w = dispatcherref02_cursor_single_F a0 w R := by kernel_rfl
theorem dispatcherref02_cursor_single_calls {a0 : Value} {w : World} {R : Value → World → Prop} (h : dispatcherref02_cursor_single_F a0 w R) : Calls Tryd.prog 82 #[a0] w fun e w' => ∃ v, e = .returned v ∧ R v w' :=
  Go.X.calls_of_sx (n := 118) (c := dispatcherref02_cursor_single_b) Tryd.func82 (by kernel_rfl) (by kernel_rfl) (Nat.le_of_ble_eq_true rfl) (by kernel_rfl) (Eq.mpr (dispatcherref02_cursor_single_eq a0 w R) h)
noncomputable def dispatcherref02_Two_b : Code := (Tryd.f83.body).getD .skip
noncomputable def dispatcherref02_Two_F (a0 : Value) (w : World) (R : Value → World → Prop) : Prop :=
  BK Tryd.prog .eql 9 (.tmp 4) (.const (Value.string { data := #[124, 124] })) a0 (Value.string { data := #[124, 124] }) w fun x6 w => CondK x6 (R (Value.tuple #[(Value.int .u8 20), (Value.int .i64 0)]) w) (BK Tryd.prog .eql 9 (.tmp 4) (.const (Value.string { data := #[38, 38] })) a0 (Value.string { data := #[38, 38] }) w fun x8 w => CondK x8 (R (Value.tuple #[(Value.int .u8 19), (Value.int .i64 1)]) w) (BK Tryd.prog .eql 9 (.tmp 4) (.const (Value.string { data := #[60] })) a0 (Value.string { data := #[60] }) w fun x10 w => CondK x10 (R (Value.tuple #[(Value.int .u8 13), (Value.int .i64 2)]) w) (BK Tryd.prog .eql 9 (.tmp 4) (.const (Value.string { data := #[60, 61] })) a0 (Value.string { data := #[60, 61] }) w fun x12 w => CondK x12 (R (Value.tuple #[(Value.int .u8 14), (Value.int .i64 2)]) w) (BK Tryd.prog .eql 9 (.tmp 4) (.const (Value.string { data := #[62] })) a0 (Value.string { data := #[62] }) w fun x14 w => CondK x14 (R (Value.tuple #[(Value.int .u8 15), (Value.int .i64 2)]) w) (BK Tryd.prog .eql 9 (.tmp 4) (.const (Value.string { data := #[62, 61] })) a0 (Value.string { data := #[62, 61] }) w fun x16 w => CondK x16 (R (Value.tuple #[(Value.int .u8 16), (Value.int .i64 2)]) w) (BK Tryd.prog .eql 9 (.tmp 4) (.const (Value.string { data := #[61, 61] })) a0 (Value.string { data := #[61, 61] }) w fun x18 w => CondK x18 (R (Value.tuple #[(Value.int .u8 17), (Value.int .i64 2)]) w) (BK Tryd.prog .eql 9 (.tmp 4) (.const (Value.string { data := #[33, 61] })) a0 (Value.string { data := #[33, 61] }) w fun x20 w => CondK x20 (R (Value.tuple #[(Value.int .u8 18), (Value.int .i64 2)]) w) (BK Tryd.prog .eql 9 (.tmp 4) (.const (Value.string { data := #[43] })) a0 (Value.string { data := #[43] }) w fun x22 w => CondK x22 (R (Value.tuple #[(Value.int .u8 11), (Value.int .i64 3)]) w) (BK Tryd.prog .eql 9 (.tmp 4) (.const (Value.string { data := #[45] })) a0 (Value.string { data := #[45] }) w fun x24 w => CondK x24 (R (Value.tuple #[(Value.int .u8 12), (Value.int .i64 3)]) w) (BK Tryd.prog .eql 9 (.tmp 4) (.const (Value.string { data := #[42] })) a0 (Value.string { data := #[42] }) w fun x26 w => CondK x26 (R (Value.tuple #[(Value.int .u8 8), (Value.int .i64 4)]) w) (BK Tryd.prog .eql 9 (.tmp 4) (.const (Value.string { data := #[47] })) a0 (Value.string { data := #[47] }) w fun x28 w => CondK x28 (R (Value.tuple #[(Value.int .u8 9), (Value.int .i64 4)]) w) (BK Tryd.prog .eql 9 (.tmp 4) (.const (Value.string { data := #[37] })) a0 (Value.string { data := #[37] }) w fun x30 w => CondK x30 (R (Value.tuple #[(Value.int .u8 10), (Value.int .i64 4)]) w) (R (Value.tuple #[(Value.int .u8 0), (Value.int .i64 (-1))]) w)))))))))))))
theorem dispatcherref02_Two_eq (a0 : Value) (w : World) (R : Value → World → Prop) : sx fn_ Tryd.prog 31 dispatcherref02_Two_b (retK Tryd.prog Tryd.f83.results.toList R) (rho0 [a0]) w = dispatcherref02_Two_F a0 w R := by kernel_rfl
theorem dispatcherref02_Two_calls {a0 : Value} {w : World} {R : Value → World → Prop} (h : dispatcherref02_Two_F a0 w R) : Calls Tryd.prog 83 #[a0] w fun e w' => ∃ v, e = .returned v ∧ R v w' :=
  Go.X.calls_of_sx (n := 31) (c := dispatcherref02_Two_b) Tryd.func83 (by kernel_rfl) (by kernel_rfl) (Nat.le_of_ble_eq_true rfl) (by kernel_rfl) (Eq.mpr (dispatcherref02_Two_eq a0 w R) h)
noncomputable def dispatcherref02_one_b : Code := (Tryd.f94.body).getD .skip
noncomputable def dispatcherref02_one_F (a0 a1 a2 : Value) (w : World) (R : Value → World → Prop) : Prop :=
  VK Tryd.prog (Instr.box 29 a0) w fun x3 w => VK Tryd.prog (Instr.box 29 a2) w fun x5 w => VK Tryd.prog (Instr.alloc 29 true (.tuple #[])) w fun x6 w => VK Tryd.prog (Instr.fieldAt 29 x3 0) w fun x8 w => UK Tryd.prog (Instr.storeAt 5 x8 a1) w fun _ w => VK Tryd.prog (Instr.fieldAt 29 x3 3) w fun x9 w => VK Tryd.prog (Instr.loadAt 22 x9) w fun x10 w => VK Tryd.prog (Instr.loadAt 29 x5) w fun x11 w => VK Tryd.prog (Instr.buildSlice 22 1 [(0, x11)].toArray) w fun x12 w => IK Tryd.prog .append #[22, 22] 22 [false, false] [x10, x12] w fun x13 w => VK Tryd.prog (Instr.fieldAt 29 x3 3) w fun x14 w => UK Tryd.prog (Instr.storeAt 22 x14 x13) w fun _ w => VK Tryd.prog (Instr.loadAt 29 x3) w fun x15 w => UK Tryd.prog (Instr.storeAt 29 x6 x15) w fun _ w => ∃ x6_1, (do loadVar 29 (← asAddr x6) : Sem Value).run Tryd.prog w = .ok x6_1 w ∧ R x6_1 w
theorem dispatcherref02_one_eq (a0 a1 a2 : Value) (w : World) (R : Value → World → Prop) : sx fn_ Tryd.prog 16 dispatcherref02_one_b (retK Tryd.prog Tryd.f94.results.toList R) (rho0 [a0, a1, a2]) w = dispatcherref02_one_F a0 a1 a2 w R := by kernel_rfl
theorem dispatcherref02_one_calls {a0 a1 a2 : Value} {w : World} {R : Value → World → Prop} (h : dispatcherref02_one_F a0 a1 a2 w R) : Calls Tryd.prog 94 #[a0, a1, a2] w fun e w' => ∃ v, e = .returned v ∧ R v w' :=
  Go.X.calls_of_sx (n := 16) (c := dispatcherref02_one_b) Tryd.func94 (by kernel_rfl) (by kernel_rfl) (Nat.le_of_ble_eq_true rfl) (by kernel_rfl) (Eq.mpr (dispatcherref02_one_eq a0 a1 a2 w R) h)
end Go.Proofs.YtpkfbaagpjdifaaDoor.XD
set_option linter.unusedVariables false
set_option linter.unusedSimpArgs false
set_option maxRecDepth 4000
namespace Go.Proofs.YtpkfbaagpjdifaaDoor.Tr
open Go Go.X Go.RowKit Go.Proofs.YtpkfbaagpjdifaaDoor.XD Go.Proofs.YtpkfbaagpjdifaaDoor.XK
theorem Sign_ok (b : Bs) (w : World) : Rt Tryd.prog 63 #[txt b] w fun v w' => v = .bool (signL.contains b) ∧ w' = w := by
  refine dispatcherref01_Sign_calls ?_
  unfold dispatcherref01_Sign_F
  refine caseS (fun hc0 => ?_) (fun hc0 => ?_)
  · obtain rfl : b = [40] := by simpa using hc0
    refine condT ?_; rw [dispatcherref01_Sign_R0_eq]; unfold dispatcherref01_Sign_R0_F; refine condT ?_; exact ⟨by first | rfl | (rw [show signL.contains _ = true from by decide +kernel]), rfl⟩
  replace hc0 : b ≠ [40] := fun q => hc0 (by rw [q])
  refine condF ?_
  refine caseS (fun hc1 => ?_) (fun hc1 => ?_)
  · obtain rfl : b = [41] := by simpa using hc1
    refine condT ?_; rw [dispatcherref01_Sign_R0_eq]; unfold dispatcherref01_Sign_R0_F; refine condT ?_; exact ⟨by first | rfl | (rw [show signL.contains _ = true from by decide +kernel]), rfl⟩
  replace hc1 : b ≠ [41] := fun q => hc1 (by rw [q])
  refine condF ?_
  refine caseS (fun hc2 => ?_) (fun hc2 => ?_)
  · obtain rfl : b = [123] := by simpa using hc2
    refine condT ?_; rw [dispatcherref01_Sign_R0_eq]; unfold dispatcherref01_Sign_R0_F; refine condT ?_; exact ⟨by first | rfl | (rw [show signL.contains _ = true from by decide +kernel]), rfl⟩
  replace hc2 : b ≠ [123] := fun q => hc2 (by rw [q])
  refine condF ?_
  refine caseS (fun hc3 => ?_) (fun hc3 => ?_)
  · obtain rfl : b = [125] := by simpa using hc3
    refine condT ?_; rw [dispatcherref01_Sign_R0_eq]; unfold dispatcherref01_Sign_R0_F; refine condT ?_; exact ⟨by first | rfl | (rw [show signL.contains _ = true from by decide +kernel]), rfl⟩
  replace hc3 : b ≠ [125] := fun q => hc3 (by rw [q])
  refine condF ?_
  refine caseS (fun hc4 => ?_) (fun hc4 => ?_)
  · obtain rfl : b = [91] := by simpa using hc4
    refine condT ?_; rw [dispatcherref01_Sign_R0_eq]; unfold dispatcherref01_Sign_R0_F; refine condT ?_; exact ⟨by first | rfl | (rw [show signL.contains _ = true from by decide +kernel]), rfl⟩
  replace hc4 : b ≠ [91] := fun q => hc4 (by rw [q])
  refine condF ?_
  refine caseS (fun hc5 => ?_) (fun hc5 => ?_)
  · obtain rfl : b = [93] := by simpa using hc5
    refine condT ?_; rw [dispatcherref01_Sign_R0_eq]; unfold dispatcherref01_Sign_R0_F; refine condT ?_; exact ⟨by first | rfl | (rw [show signL.contains _ = true from by decide +kernel]), rfl⟩
  replace hc5 : b ≠ [93] := fun q => hc5 (by rw [q])
  refine condF ?_
  refine caseS (fun hc6 => ?_) (fun hc6 => ?_)
  · obtain rfl : b = [59] := by simpa using hc6
    refine condT ?_; rw [dispatcherref01_Sign_R0_eq]; unfold dispatcherref01_Sign_R0_F; refine condT ?_; exact ⟨by first | rfl | (rw [show signL.contains _ = true from by decide +kernel]), rfl⟩
  replace hc6 : b ≠ [59] := fun q => hc6 (by rw [q])
  refine condF ?_
  refine caseS (fun hc7 => ?_) (fun hc7 => ?_)
  · obtain rfl : b = [44] := by simpa using hc7
    refine condT ?_; rw [dispatcherref01_Sign_R0_eq]; unfold dispatcherref01_Sign_R0_F; refine condT ?_; exact ⟨by first | rfl | (rw [show signL.contains _ = true from by decide +kernel]), rfl⟩
  replace hc7 : b ≠ [44] := fun q => hc7 (by rw [q])
  refine condF ?_
  refine caseS (fun hc8 => ?_) (fun hc8 => ?_)
  · obtain rfl : b = [61] := by simpa using hc8
    refine condT ?_; rw [dispatcherref01_Sign_R0_eq]; unfold dispatcherref01_Sign_R0_F; refine condT ?_; exact ⟨by first | rfl | (rw [show signL.contains _ = true from by decide +kernel]), rfl⟩
  replace hc8 : b ≠ [61] := fun q => hc8 (by rw [q])
  refine condF ?_
  refine caseS (fun hc9 => ?_) (fun hc9 => ?_)
  · obtain rfl : b = [43] := by simpa using hc9
    refine condT ?_; rw [dispatcherref01_Sign_R0_eq]; unfold dispatcherref01_Sign_R0_F; refine condT ?_; exact ⟨by first | rfl | (rw [show signL.contains _ = true from by decide +kernel]), rfl⟩
  replace hc9 : b ≠ [43] := fun q => hc9 (by rw [q])
  refine condF ?_
  refine caseS (fun hc10 => ?_) (fun hc10 => ?_)
  · obtain rfl : b = [45] := by simpa using hc10
    refine condT ?_; rw [dispatcherref01_Sign_R0_eq]; unfold dispatcherref01_Sign_R0_F; refine condT ?_; exact ⟨by first | rfl | (rw [show signL.contains _ = true from by decide +kernel]), rfl⟩
  replace hc10 : b ≠ [45] := fun q => hc10 (by rw [q])
  refine condF ?_
  refine caseS (fun hc11 => ?_) (fun hc11 => ?_)
  · obtain rfl : b = [42] := by simpa using hc11
    refine condT ?_; rw [dispatcherref01_Sign_R0_eq]; unfold dispatcherref01_Sign_R0_F; refine condT ?_; exact ⟨by first | rfl | (rw [show signL.contains _ = true from by decide +kernel]), rfl⟩
  replace hc11 : b ≠ [42] := fun q => hc11 (by rw [q])
  refine condF ?_
  refine caseS (fun hc12 => ?_) (fun hc12 => ?_)
  · obtain rfl : b = [47] := by simpa using hc12
    refine condT ?_; rw [dispatcherref01_Sign_R0_eq]; unfold dispatcherref01_Sign_R0_F; refine condT ?_; exact ⟨by first | rfl | (rw [show signL.contains _ = true from by decide +kernel]), rfl⟩
  replace hc12 : b ≠ [47] := fun q => hc12 (by rw [q])
  refine condF ?_
  refine caseS (fun hc13 => ?_) (fun hc13 => ?_)
  · obtain rfl : b = [37] := by simpa using hc13
    refine condT ?_; rw [dispatcherref01_Sign_R0_eq]; unfold dispatcherref01_Sign_R0_F; refine condT ?_; exact ⟨by first | rfl | (rw [show signL.contains _ = true from by decide +kernel]), rfl⟩
  replace hc13 : b ≠ [37] := fun q => hc13 (by rw [q])
  refine condF ?_
  refine caseS (fun hc14 => ?_) (fun hc14 => ?_)
  · obtain rfl : b = [60] := by simpa using hc14
    refine condT ?_; rw [dispatcherref01_Sign_R0_eq]; unfold dispatcherref01_Sign_R0_F; refine condT ?_; exact ⟨by first | rfl | (rw [show signL.contains _ = true from by decide +kernel]), rfl⟩
  replace hc14 : b ≠ [60] := fun q => hc14 (by rw [q])
  refine condF ?_
  refine caseS (fun hc15 => ?_) (fun hc15 => ?_)
  · obtain rfl : b = [60, 61] := by simpa using hc15
    refine condT ?_; rw [dispatcherref01_Sign_R0_eq]; unfold dispatcherref01_Sign_R0_F; refine condT ?_; exact ⟨by first | rfl | (rw [show signL.contains _ = true from by decide +kernel]), rfl⟩
  replace hc15 : b ≠ [60, 61] := fun q => hc15 (by rw [q])
  refine condF ?_
  refine caseS (fun hc16 => ?_) (fun hc16 => ?_)
  · obtain rfl : b = [62] := by simpa using hc16
    refine condT ?_; rw [dispatcherref01_Sign_R0_eq]; unfold dispatcherref01_Sign_R0_F; refine condT ?_; exact ⟨by first | rfl | (rw [show signL.contains _ = true from by decide +kernel]), rfl⟩
  replace hc16 : b ≠ [62] := fun q => hc16 (by rw [q])
  refine condF ?_
  refine caseS (fun hc17 => ?_) (fun hc17 => ?_)
  · obtain rfl : b = [62, 61] := by simpa using hc17
    refine condT ?_; rw [dispatcherref01_Sign_R0_eq]; unfold dispatcherref01_Sign_R0_F; refine condT ?_; exact ⟨by first | rfl | (rw [show signL.contains _ = true from by decide +kernel]), rfl⟩
  replace hc17 : b ≠ [62, 61] := fun q => hc17 (by rw [q])
  refine condF ?_
  refine caseS (fun hc18 => ?_) (fun hc18 => ?_)
  · obtain rfl : b = [61, 61] := by simpa using hc18
    refine condT ?_; rw [dispatcherref01_Sign_R0_eq]; unfold dispatcherref01_Sign_R0_F; refine condT ?_; exact ⟨by first | rfl | (rw [show signL.contains _ = true from by decide +kernel]), rfl⟩
  replace hc18 : b ≠ [61, 61] := fun q => hc18 (by rw [q])
  refine condF ?_
  refine caseS (fun hc19 => ?_) (fun hc19 => ?_)
  · obtain rfl : b = [33, 61] := by simpa using hc19
    refine condT ?_; rw [dispatcherref01_Sign_R0_eq]; unfold dispatcherref01_Sign_R0_F; refine condT ?_; exact ⟨by first | rfl | (rw [show signL.contains _ = true from by decide +kernel]), rfl⟩
  replace hc19 : b ≠ [33, 61] := fun q => hc19 (by rw [q])
  refine condF ?_
  refine caseS (fun hc20 => ?_) (fun hc20 => ?_)
  · obtain rfl : b = [38, 38] := by simpa using hc20
    refine condT ?_; rw [dispatcherref01_Sign_R0_eq]; unfold dispatcherref01_Sign_R0_F; refine condT ?_; exact ⟨by first | rfl | (rw [show signL.contains _ = true from by decide +kernel]), rfl⟩
  replace hc20 : b ≠ [38, 38] := fun q => hc20 (by rw [q])
  refine condF ?_
  refine caseS (fun hc21 => ?_) (fun hc21 => ?_)
  · obtain rfl : b = [124, 124] := by simpa using hc21
    refine condT ?_; rw [dispatcherref01_Sign_R0_eq]; unfold dispatcherref01_Sign_R0_F; refine condT ?_; exact ⟨by first | rfl | (rw [show signL.contains _ = true from by decide +kernel]), rfl⟩
  replace hc21 : b ≠ [124, 124] := fun q => hc21 (by rw [q])
  refine condF ?_
  refine caseS (fun hc22 => ?_) (fun hc22 => ?_)
  · obtain rfl : b = [33] := by simpa using hc22
    rw [dispatcherref01_Sign_R0_eq]; unfold dispatcherref01_Sign_R0_F; refine condT ?_; exact ⟨by first | rfl | (rw [show signL.contains _ = true from by decide +kernel]), rfl⟩
  replace hc22 : b ≠ [33] := fun q => hc22 (by rw [q])
  rw [dispatcherref01_Sign_R0_eq]; unfold dispatcherref01_Sign_R0_F; refine condF ?_
  rw [bk_n, sq_n, dispatcherref01_Sign_R1_eq]; unfold dispatcherref01_Sign_R1_F
  rw [show signL.contains b = false by unfold signL; simp only [List.contains_cons, List.contains_nil, Bool.or_false, Bool.or_eq_false_iff, beq_eq_false_iff_ne]; exact ⟨hc0, hc1, hc2, hc3, hc4, hc5, hc6, hc7, hc8, hc9, hc10, hc11, hc12, hc13, hc14, hc15, hc16, hc17, hc18, hc19, hc20, hc21, hc22⟩]
  exact ⟨rfl, rfl⟩
theorem Two_ok (b : Bs) (w : World) : Rt Tryd.prog 83 #[txt b] w fun v w' => v = .tuple #[.int .u8 (twoP b).1, .int .i64 (twoP b).2] ∧ w' = w := by
  refine dispatcherref02_Two_calls ?_
  unfold dispatcherref02_Two_F
  refine caseS (fun hc0 => ?_) (fun hc0 => ?_)
  · obtain rfl : b = [124, 124] := by simpa using hc0
    refine condT ?_; exact ⟨rfl, rfl⟩
  replace hc0 : b ≠ [124, 124] := fun q => hc0 (by rw [q])
  refine condF ?_
  refine caseS (fun hc1 => ?_) (fun hc1 => ?_)
  · obtain rfl : b = [38, 38] := by simpa using hc1
    refine condT ?_; exact ⟨rfl, rfl⟩
  replace hc1 : b ≠ [38, 38] := fun q => hc1 (by rw [q])
  refine condF ?_
  refine caseS (fun hc2 => ?_) (fun hc2 => ?_)
  · obtain rfl : b = [60] := by simpa using hc2
    refine condT ?_; exact ⟨rfl, rfl⟩
  replace hc2 : b ≠ [60] := fun q => hc2 (by rw [q])
  refine condF ?_
  refine caseS (fun hc3 => ?_) (fun hc3 => ?_)
  · obtain rfl : b = [60, 61] := by simpa using hc3
    refine condT ?_; exact ⟨rfl, rfl⟩
  replace hc3 : b ≠ [60, 61] := fun q => hc3 (by rw [q])
  refine condF ?_
  refine caseS (fun hc4 => ?_) (fun hc4 => ?_)
  · obtain rfl : b = [62] := by simpa using hc4
    refine condT ?_; exact ⟨rfl, rfl⟩
  replace hc4 : b ≠ [62] := fun q => hc4 (by rw [q])
  refine condF ?_
  refine caseS (fun hc5 => ?_) (fun hc5 => ?_)
  · obtain rfl : b = [62, 61] := by simpa using hc5
    refine condT ?_; exact ⟨rfl, rfl⟩
  replace hc5 : b ≠ [62, 61] := fun q => hc5 (by rw [q])
  refine condF ?_
  refine caseS (fun hc6 => ?_) (fun hc6 => ?_)
  · obtain rfl : b = [61, 61] := by simpa using hc6
    refine condT ?_; exact ⟨rfl, rfl⟩
  replace hc6 : b ≠ [61, 61] := fun q => hc6 (by rw [q])
  refine condF ?_
  refine caseS (fun hc7 => ?_) (fun hc7 => ?_)
  · obtain rfl : b = [33, 61] := by simpa using hc7
    refine condT ?_; exact ⟨rfl, rfl⟩
  replace hc7 : b ≠ [33, 61] := fun q => hc7 (by rw [q])
  refine condF ?_
  refine caseS (fun hc8 => ?_) (fun hc8 => ?_)
  · obtain rfl : b = [43] := by simpa using hc8
    refine condT ?_; exact ⟨rfl, rfl⟩
  replace hc8 : b ≠ [43] := fun q => hc8 (by rw [q])
  refine condF ?_
  refine caseS (fun hc9 => ?_) (fun hc9 => ?_)
  · obtain rfl : b = [45] := by simpa using hc9
    refine condT ?_; exact ⟨rfl, rfl⟩
  replace hc9 : b ≠ [45] := fun q => hc9 (by rw [q])
  refine condF ?_
  refine caseS (fun hc10 => ?_) (fun hc10 => ?_)
  · obtain rfl : b = [42] := by simpa using hc10
    refine condT ?_; exact ⟨rfl, rfl⟩
  replace hc10 : b ≠ [42] := fun q => hc10 (by rw [q])
  refine condF ?_
  refine caseS (fun hc11 => ?_) (fun hc11 => ?_)
  · obtain rfl : b = [47] := by simpa using hc11
    refine condT ?_; exact ⟨rfl, rfl⟩
  replace hc11 : b ≠ [47] := fun q => hc11 (by rw [q])
  refine condF ?_
  refine caseS (fun hc12 => ?_) (fun hc12 => ?_)
  · obtain rfl : b = [37] := by simpa using hc12
    refine condT ?_; exact ⟨rfl, rfl⟩
  replace hc12 : b ≠ [37] := fun q => hc12 (by rw [q])
  refine condF ?_
  rw [show twoP b = (0, -1) by unfold twoP twoL; simp only [findT]; rw [if_neg hc0, if_neg hc1, if_neg hc2, if_neg hc3, if_neg hc4, if_neg hc5, if_neg hc6, if_neg hc7, if_neg hc8, if_neg hc9, if_neg hc10, if_neg hc11, if_neg hc12]]
  exact ⟨rfl, rfl⟩
theorem numF_lim : ∀ (l : Bs) (n : Int), l.all digitP = true → 0 ≤ n → n * 10 ^ l.length ≤ numF l n ∧ numF l n < (n + 1) * 10 ^ l.length
  | [], n, _, h => by simp [numF]; omega
  | c :: r, n, ha, h => by
    simp only [List.all_cons, Bool.and_eq_true] at ha
    obtain ⟨hc, hr⟩ := ha
    unfold digitP at hc
    simp only [Bool.and_eq_true, decide_eq_true_eq] at hc
    obtain ⟨h1, h2⟩ := numF_lim r (10 * n + ((c.toNat : Int) - 48)) hr (by omega)
    have hp : (0 : Int) ≤ 10 ^ r.length := Int.pow_nonneg (by omega)
    simp only [numF, List.length_cons]
    rw [Int.pow_succ]
    constructor
    · refine Int.le_trans ?_ h1
      rw [show n * (10 ^ r.length * 10) = (10 * n) * 10 ^ r.length by rw [Int.mul_comm (10 ^ r.length) 10, ← Int.mul_assoc, Int.mul_comm n 10]]
      exact Int.mul_le_mul_of_nonneg_right (by omega) hp
    · refine Int.lt_of_lt_of_le h2 ?_
      rw [show (n + 1) * (10 ^ r.length * 10) = (10 * (n + 1)) * 10 ^ r.length by rw [Int.mul_comm (10 ^ r.length) 10, ← Int.mul_assoc, Int.mul_comm (n + 1) 10]]
      exact Int.mul_le_mul_of_nonneg_right (by omega) hp
theorem numF_snoc : ∀ (l : Bs) (n : Int) (c : UInt8), numF (l ++ [c]) n = 10 * numF l n + ((c.toNat : Int) - 48)
  | [], n, c => rfl
  | d :: r, n, c => by rw [List.cons_append, numF, numF, numF_snoc r]
theorem pow_le18 {n : Nat} (h : n ≤ 17) : (10 : Int) ^ n ≤ 100000000000000000 := by
  have : (10 : Nat) ^ n ≤ 10 ^ 17 := Nat.pow_le_pow_right (by omega) h
  have h2 : ((10 ^ n : Nat) : Int) ≤ ((10 ^ 17 : Nat) : Int) := Int.ofNat_le.2 this
  simpa using h2
theorem len_strB (b : Bs) (cs : List Bool) {w : World} {K : Value → World → Prop} : IK Tryd.prog .len #[9] 3 cs [txt b] w K = K (.int .i64 b.length) w := by
  show IK Tryd.prog .len #[9] 3 cs [.string ⟨b.toArray⟩] w K = _
  rw [len_str uS]
  simp [ByteArray.size]
theorem ixB {b : Bs} {n : Nat} {c : UInt8} (h : b[n]? = some c) {w : World} (K : Value → World → Prop) : VK Tryd.prog (Instr.index 9 (txt b) (.int .i64 (n : Int))) w K = K (.int .u8 c.toNat) w := by
  have hs : n < (⟨b.toArray⟩ : ByteArray).size := by
    have := (List.getElem?_eq_some_iff.1 h).1
    simpa [ByteArray.size] using this
  have hv : (Instr.index 9 (txt b) (.int .i64 (n : Int))).run Tryd.prog w = .ok (.int .u8 c.toNat) w := by
    show (Instr.index 9 (.string ⟨b.toArray⟩) (.int .i64 (n : Int))).run Tryd.prog w = _
    rw [run_index_string w _ _ _ _ uS, dif_pos ⟨by omega, by omega⟩]
    have : (⟨b.toArray⟩ : ByteArray)[n]'hs = c := by
      obtain ⟨h1, h2⟩ := List.getElem?_eq_some_iff.1 h
      show (b.toArray)[n] = c
      simpa using h2
    simp [this]
  exact VK_eq_of hv
theorem Number_ok (b : Bs) (w : World) (hb : b.length ≤ 1099511627776) : Rt Tryd.prog 64 #[txt b] w fun v w' => v = .tuple #[.int .i64 (numP b), .bool (numOk b)] ∧ Mod none_ w w' := by
  refine dispatcherref01_Number_calls ?_
  unfold dispatcherref01_Number_F
  have bad : numOk b = false → numP b = 0 := fun h => by unfold numP; rw [h]; rfl
  rw [len_strB]
  have no : ¬ (1 ≤ b.length ∧ b.length ≤ 18 ∧ ¬ (b.head? = some 48 ∧ 1 < b.length)) → numOk b = false := by
    intro h
    cases hq : numOk b with
    | false => rfl
    | true =>
      unfold numOk at hq
      simp only [Bool.and_eq_true, decide_eq_true_eq, Bool.not_eq_true', Bool.and_eq_false_iff, decide_eq_false_iff_not] at hq
      exact absurd ⟨hq.1.1.1, hq.1.1.2, fun q => hq.1.2.elim (fun r => r q.1) (fun r => r q.2)⟩ h
  have stop : numOk b = false → (Value.tuple #[.int .i64 0, .bool false] = .tuple #[.int .i64 (numP b), .bool (numOk b)] ∧ Mod none_ w w) := fun h => ⟨by rw [bad h, h], Mod.refl _ _⟩
  by_cases h1 : b.length < 1
  · simp only [↓VG_u, ↓UG_u, ↓MG_u, ↓NG_u, ↓PG_u, ↓BG_u, ↓CG_u, ↓IG_u, ↓VGtt, ↓VGtf, ↓VGft, ↓VGff, ↓UGtt, ↓UGtf, ↓UGft, ↓UGff, ↓MGtt, ↓MGtf, ↓MGft, ↓MGff, ↓NGtt, ↓NGtf, ↓NGft, ↓NGff, ↓PGtt, ↓PGtf, ↓PGft, ↓PGff, ↓BGtt, ↓BGtf, ↓BGft, ↓BGff, ↓CGtt, ↓CGtf, ↓CGft, ↓CGff, ↓IGtt, ↓IGtf, ↓IGft, ↓IGff, ↓PKt, ↓PKf, ↓CDt, ↓CDf, ↓NOTt, ↓NOTf, ↓NK_ptr, ↓LTt (show (b.length : Int) < 1 by omega)]
    exact stop (no (by omega))
  · simp only [↓VG_u, ↓UG_u, ↓MG_u, ↓NG_u, ↓PG_u, ↓BG_u, ↓CG_u, ↓IG_u, ↓VGtt, ↓VGtf, ↓VGft, ↓VGff, ↓UGtt, ↓UGtf, ↓UGft, ↓UGff, ↓MGtt, ↓MGtf, ↓MGft, ↓MGff, ↓NGtt, ↓NGtf, ↓NGft, ↓NGff, ↓PGtt, ↓PGtf, ↓PGft, ↓PGff, ↓BGtt, ↓BGtf, ↓BGft, ↓BGff, ↓CGtt, ↓CGtf, ↓CGft, ↓CGff, ↓IGtt, ↓IGtf, ↓IGft, ↓IGff, ↓PKt, ↓PKf, ↓CDt, ↓CDf, ↓NOTt, ↓NOTf, ↓NK_ptr, ↓LTf (show (1 : Int) ≤ b.length by omega), ↓len_strB]
    by_cases h2 : 18 < b.length
    · simp only [↓VG_u, ↓UG_u, ↓MG_u, ↓NG_u, ↓PG_u, ↓BG_u, ↓CG_u, ↓IG_u, ↓VGtt, ↓VGtf, ↓VGft, ↓VGff, ↓UGtt, ↓UGtf, ↓UGft, ↓UGff, ↓MGtt, ↓MGtf, ↓MGft, ↓MGff, ↓NGtt, ↓NGtf, ↓NGft, ↓NGff, ↓PGtt, ↓PGtf, ↓PGft, ↓PGff, ↓BGtt, ↓BGtf, ↓BGft, ↓BGff, ↓CGtt, ↓CGtf, ↓CGft, ↓CGff, ↓IGtt, ↓IGtf, ↓IGft, ↓IGff, ↓PKt, ↓PKf, ↓CDt, ↓CDf, ↓NOTt, ↓NOTf, ↓NK_ptr, ↓GTt (show (18 : Int) < b.length by omega)]
      exact stop (no (by omega))
    · simp only [↓VG_u, ↓UG_u, ↓MG_u, ↓NG_u, ↓PG_u, ↓BG_u, ↓CG_u, ↓IG_u, ↓VGtt, ↓VGtf, ↓VGft, ↓VGff, ↓UGtt, ↓UGtf, ↓UGft, ↓UGff, ↓MGtt, ↓MGtf, ↓MGft, ↓MGff, ↓NGtt, ↓NGtf, ↓NGft, ↓NGff, ↓PGtt, ↓PGtf, ↓PGft, ↓PGff, ↓BGtt, ↓BGtf, ↓BGft, ↓BGff, ↓CGtt, ↓CGtf, ↓CGft, ↓CGff, ↓IGtt, ↓IGtf, ↓IGft, ↓IGff, ↓PKt, ↓PKf, ↓CDt, ↓CDf, ↓NOTt, ↓NOTf, ↓NK_ptr, ↓GTf (show (b.length : Int) ≤ 18 by omega)]
      obtain ⟨c, hc⟩ : ∃ c, b[0]? = some c := ⟨b[0], List.getElem?_eq_getElem (by omega)⟩
      have hix : ∀ K : Value → World → Prop, VK Tryd.prog (Instr.index 9 (txt b) (.int .i64 0)) w K = K (.int .u8 c.toNat) w := fun K => ixB hc K
      have hh : b.head? = some c := by rw [List.head?_eq_getElem?]; exact hc
      have loop : ∀ (ρ : Sl), ρ 0 = txt b → ρ 4 = .int .i64 0 → ρ 5 = .int .i64 0 → ¬ (c = 48 ∧ 1 < b.length) → W fn_ Tryd.prog 44 (Code.loop dispatcherref01_Number_L0) (blkK 0 (seqK (sx fn_ Tryd.prog 44 dispatcherref01_Number_R1 (retK Tryd.prog [ResultVar.tmp 2, ResultVar.tmp 3] fun v w' => v = .tuple #[.int .i64 (numP b), .bool (numOk b)] ∧ Mod none_ w w')) (retK Tryd.prog [ResultVar.tmp 2, ResultVar.tmp 3] fun v w' => v = .tuple #[.int .i64 (numP b), .bool (numOk b)] ∧ Mod none_ w w'))) ρ w := by
        intro ρ q0 q4 q5 hz
        refine W_loopG dispatcherref01_Number_L0_ok (fun m ρ w' => ∃ n : Nat, n ≤ b.length ∧ m = b.length - n ∧ ρ 0 = txt b ∧ ρ 4 = .int .i64 (numF (b.take n) 0) ∧ ρ 5 = .int .i64 n ∧ (b.take n).all digitP = true ∧ Mod none_ w w') (b.length - 0) ⟨0, by omega, rfl, q0, q4, q5, rfl, Mod.refl _ _⟩ ?_
        rintro m ρ w2 ⟨n, hn, rfl, q0, q4, q5, hall, hm⟩
        rw [dispatcherref01_Number_L0_eq]
        unfold dispatcherref01_Number_L0_F
        rw [q0, q5, q4, len_strB]
        refine BKlss (a := n) (b := b.length) rfl rfl ?_
        refine caseC (fun hlt => ?_) (fun hlt => ?_)
        · have hlt : n < b.length := by have := of_decide_eq_true hlt; omega
          have hx : b[n]? = some b[n] := List.getElem?_eq_getElem hlt
          rw [ixB hx]
          refine CK_st Tryd.func62 rfl rfl (digitR_ok _ w2) ?_
          rintro _ w3 ⟨rfl, rfl⟩
          rw [digit_nat, not_ok]
          cases hd : digitP b[n] with
          | false =>
            refine condT ?_
            have hf : numOk b = false := by
              unfold numOk
              rw [show b.all digitP = false from List.all_eq_false.2 ⟨b[n], List.getElem_mem hlt, by simp [hd]⟩, Bool.and_false]
            exact ⟨by rw [bad hf, hf]; rfl, hm⟩
          | true =>
            refine condF ?_
            have hd' := hd
            unfold digitP at hd'
            simp only [Bool.and_eq_true, decide_eq_true_eq] at hd'
            have hlim := numF_lim (b.take n) 0 hall (by omega)
            have hp := pow_le18 (n := (b.take n).length) (by rw [List.length_take]; omega)
            rw [BK_mul, wrap_i (n := 10 * numF (b.take n) 0) (by omega) (by omega), ixB hx, BK_sub, IntWalk.u8_in _ (by omega)]
            rw [conv_i (k := .i64) (by kernel_rfl) (by kernel_rfl), wrap_i (n := ((b[n].toNat : Int) - 48)) (by omega) (by omega), BK_add, wrap_i (n := 10 * numF (b.take n) 0 + ((b[n].toNat : Int) - 48)) (by omega) (by omega)]
            refine BKadd (a := n) (b := 1) rfl rfl (by omega) (by omega) ?_
            refine ⟨b.length - (n + 1), by omega, n + 1, hlt, rfl, q0, ?_, rfl, ?_, hm⟩
            · rw [List.take_add_one, hx, Option.toList_some, numF_snoc]; rfl
            · rw [List.take_add_one, hx, Option.toList_some, List.all_append, hall]; simp [hd]
        · obtain rfl : n = b.length := by have := of_decide_eq_false hlt; omega
          rw [sq_x, bk_x, sq_n, dispatcherref01_Number_R1_eq]
          unfold dispatcherref01_Number_R1_F
          rw [List.take_length] at q4 hall
          have hok : numOk b = true := by
            unfold numOk
            rw [hall, hh]
            by_cases hcz : c = 48
            · simp [hcz, show 1 ≤ b.length by omega, show b.length ≤ 18 by omega, show ¬ 1 < b.length from fun q => hz ⟨hcz, q⟩]
            · simp [hcz, show 1 ≤ b.length by omega, show b.length ≤ 18 by omega]
          exact ⟨by unfold numP; rw [hok, if_pos rfl, ← q4]; rfl, hm⟩
      by_cases hcz : c = 48
      · subst hcz
        by_cases hl : 1 < b.length
        · simp only [↓VG_u, ↓UG_u, ↓MG_u, ↓NG_u, ↓PG_u, ↓BG_u, ↓CG_u, ↓IG_u, ↓VGtt, ↓VGtf, ↓VGft, ↓VGff, ↓UGtt, ↓UGtf, ↓UGft, ↓UGff, ↓MGtt, ↓MGtf, ↓MGft, ↓MGff, ↓NGtt, ↓NGtf, ↓NGft, ↓NGff, ↓PGtt, ↓PGtf, ↓PGft, ↓PGff, ↓BGtt, ↓BGtf, ↓BGft, ↓BGff, ↓CGtt, ↓CGtf, ↓CGft, ↓CGff, ↓IGtt, ↓IGtf, ↓IGft, ↓IGff, ↓PKt, ↓PKf, ↓CDt, ↓CDf, ↓NOTt, ↓NOTf, ↓NK_ptr, ↓hix, ↓EQt (show (((48 : UInt8).toNat : Nat) : Int) = 48 by rfl), ↓len_strB, ↓GTt (show (1 : Int) < b.length by omega)]
          exact stop (no (fun q => q.2.2 ⟨hh, hl⟩))
        · simp only [↓VG_u, ↓UG_u, ↓MG_u, ↓NG_u, ↓PG_u, ↓BG_u, ↓CG_u, ↓IG_u, ↓VGtt, ↓VGtf, ↓VGft, ↓VGff, ↓UGtt, ↓UGtf, ↓UGft, ↓UGff, ↓MGtt, ↓MGtf, ↓MGft, ↓MGff, ↓NGtt, ↓NGtf, ↓NGft, ↓NGff, ↓PGtt, ↓PGtf, ↓PGft, ↓PGff, ↓BGtt, ↓BGtf, ↓BGft, ↓BGff, ↓CGtt, ↓CGtf, ↓CGft, ↓CGff, ↓IGtt, ↓IGtf, ↓IGft, ↓IGff, ↓PKt, ↓PKf, ↓CDt, ↓CDf, ↓NOTt, ↓NOTf, ↓NK_ptr, ↓hix, ↓EQt (show (((48 : UInt8).toNat : Nat) : Int) = 48 by rfl), ↓len_strB, ↓GTf (show (b.length : Int) ≤ 1 by omega)]
          exact loop _ rfl rfl rfl (fun q => hl q.2)
      · have hne : ((c.toNat : Nat) : Int) ≠ 48 := fun q => hcz (UInt8.toNat.inj (by show c.toNat = 48; omega))
        simp only [↓VG_u, ↓UG_u, ↓MG_u, ↓NG_u, ↓PG_u, ↓BG_u, ↓CG_u, ↓IG_u, ↓VGtt, ↓VGtf, ↓VGft, ↓VGff, ↓UGtt, ↓UGtf, ↓UGft, ↓UGff, ↓MGtt, ↓MGtf, ↓MGft, ↓MGff, ↓NGtt, ↓NGtf, ↓NGft, ↓NGff, ↓PGtt, ↓PGtf, ↓PGft, ↓PGff, ↓BGtt, ↓BGtf, ↓BGft, ↓BGff, ↓CGtt, ↓CGtf, ↓CGft, ↓CGff, ↓IGtt, ↓IGtf, ↓IGft, ↓IGff, ↓PKt, ↓PKf, ↓CDt, ↓CDf, ↓NOTt, ↓NOTf, ↓NK_ptr, ↓hix, ↓EQf hne]
        exact loop _ rfl rfl rfl (fun q => hcz q.1)
abbrev tT : TypeId := 75
theorem zTkg : (Tryd.prog.info? 75).bind (·.zero) = some (.agg zTk.cells.toArray) := by kernel_rfl
theorem iTk : (Tryd.prog.info? 75).map (·.size) = some 5 := by kernel_rfl
theorem bTk (b : Bs) : Tryd.prog.built 75 [(1, txt b)] = some (Tk.mk 0 b 0 0 0).cells.toArray := by kernel_rfl
theorem tk_one (t : Tk) : (t.cells.toArray.all (·.oneCell')) = true := by simp [Tk.cells, txt, Value.oneCell']
theorem uTks : Tryd.prog.underlying 49 = some (.slice 75) := by kernel_rfl
theorem cTk : Tryd.prog.cellsOf 75 = 4 + 1 := by kernel_rfl
theorem eTks : elemOk Tryd.prog 49 75 5 48 = true := by kernel_rfl
theorem uBytes : Tryd.prog.underlying 52 = some (.slice 5) := by kernel_rfl
theorem cB : Tryd.prog.cellsOf 5 = 0 + 1 := by kernel_rfl
theorem tk_fo {w : World} {b : Nat} {e : Tk} {ty : TypeId} {fr : Nat × Nat} (hb : w.heap[b]? = some (.cells e.cells.toArray ty fr)) : FO Tryd.prog w 75 0 0 ⟨b, 0, none⟩ 5 (.int .u8 e.kind) ∧ FO Tryd.prog w 75 1 1 ⟨b, 0, none⟩ 9 (txt e.text) ∧ FO Tryd.prog w 75 2 2 ⟨b, 0, none⟩ 2 (.int .i64 e.num) ∧ FO Tryd.prog w 75 3 3 ⟨b, 0, none⟩ 3 (.int .i64 e.line) ∧ FO Tryd.prog w 75 4 4 ⟨b, 0, none⟩ 3 (.int .i64 e.col) :=
  ⟨FO.blk hb (by kernel_rfl) uU8 rfl rfl, FO.blk hb (by kernel_rfl) uS rfl rfl, FO.blk hb (by kernel_rfl) uI64 rfl rfl, FO.blk hb (by kernel_rfl) uI rfl rfl, FO.blk hb (by kernel_rfl) uI rfl rfl⟩
theorem OfTx_ok (b : Bs) (w : World) (hb : b.length ≤ 1099511627776) : Rt Tryd.prog 36 #[txt b] w fun v w' => v = .agg (Tk.mk (tokP b).1 b (tokP b).2 0 0).cells.toArray ∧ Mod none_ w w' := by
  refine dispatcherref01_Of_calls ?_
  unfold dispatcherref01_Of_F
  refine al_k (cs := zTk.cells.toArray) zTkg rfl _ fun w1 hb1 hm1 hz1 => ?_
  rw [build_ok (bTk b)]
  refine lcl_k (cs := (Tk.mk 0 b 0 0 0).cells.toArray) zTkg _ iTk rfl (tk_one _) fun w2 hb2 hm2 hz2 => ?_
  have hb12 := hm2.blk hb1 id
  have hm02 := hm1.trans hm2
  refine CK_st Tryd.func64 rfl rfl (Number_ok b w2 hb) ?_
  rintro _ w3 ⟨rfl, hm3⟩
  rw [extract_ok (v := .int .i64 (numP b)) rfl, extract_ok (v := .bool (numOk b)) rfl]
  refine CK_st Tryd.func65 rfl rfl (WordR_ok w3 ⟨b.toArray⟩) ?_
  rintro _ w4 ⟨rfl, hm4⟩
  have hm24 := hm3.trans hm4
  have hb14 := hm24.blk hb12 id
  have hb24 := hm24.blk hb2 id
  have hm04 := hm02.trans hm24
  have hsz : w1.heap.size ≤ w4.heap.size := Nat.le_trans hm2.size hm24.size
  have fin : ∀ (ρ : Sl) (w5 : World) (t : Tk), ρ 3 = .pointer (some ⟨w1.heap.size, 0, none⟩) → ρ 2 = .pointer (some ⟨w.heap.size, 0, none⟩) → w5.heap[w1.heap.size]? = some (.cells t.cells.toArray tT (0, 0)) → w5.heap[w.heap.size]? = some (.cells zTk.cells.toArray tT (0, 0)) → Mod none_ w w5 → t = Tk.mk (tokP b).1 b (tokP b).2 0 0 →
      sx fn_ Tryd.prog 31 dispatcherref01_Of_R0 (retK Tryd.prog [ResultVar.cell 2 75] fun v w' => v = .agg (Tk.mk (tokP b).1 b (tokP b).2 0 0).cells.toArray ∧ Mod none_ w w') ρ w5 := by
    intro ρ w5 t q3 q2 h1 h2 hm ht
    subst ht
    rw [dispatcherref01_Of_R0_eq]
    unfold dispatcherref01_Of_R0_F
    rw [q3, q2]
    refine ldB (cs := (Tk.mk (tokP b).1 b (tokP b).2 0 0).cells.toArray) Tryd.underlying75 rfl iTk h1 ?_
    refine stS (old := zTk.cells.toArray) rfl rfl iTk rfl (tk_one _) h2 fun w6 h6 hm6 hz6 => ?_
    exact rtCell (cs := (Tk.mk (tokP b).1 b (tokP b).2 0 0).cells.toArray) (b := w.heap.size) q2 Tryd.underlying75 rfl iTk h6 ⟨rfl, hm.fresh hm6 (Nat.le_refl _)⟩
  have hne : w.heap.size ≠ w1.heap.size := by omega
  refine caseC (fun hw => ?_) (fun hw => ?_)
  · refine fst_k (off := 0) (by kernel_rfl) (by kernel_rfl) rfl hb24 (by simp [Tk.cells]) (cs' := (Tk.mk 3 b 0 0 0).cells.toArray) rfl fun x w5 h5 hm5 hz5 => ?_
    refine fin _ w5 _ rfl rfl h5 (hm5.blk hb14 hne) (hm04.fresh hm5 (by omega)) ?_
    have : wordsL.contains b = true := hw
    unfold tokP
    rw [if_pos this]
  · have hw : wordsL.contains b = false := hw
    refine CK_st Tryd.func66 rfl rfl (NameR_ok w4 ⟨b.toArray⟩ (by unfold maxLen; simp [ByteArray.size]; omega)) ?_
    rintro _ w5 ⟨rfl, hm5⟩
    have hb15 := hm5.blk hb14 id
    have hb25 := hm5.blk hb24 id
    have hm05 := hm04.trans hm5
    have hs5 := hm5.size
    refine caseC (fun hn => ?_) (fun hn => ?_)
    · refine fst_k (off := 0) (by kernel_rfl) (by kernel_rfl) rfl hb25 (by simp [Tk.cells]) (cs' := (Tk.mk 1 b 0 0 0).cells.toArray) rfl fun x w6 h6 hm6 hz6 => ?_
      refine fin _ w6 _ rfl rfl h6 (hm6.blk hb15 hne) (hm05.fresh hm6 (by omega)) ?_
      have : nameP (bs b) = true := hn
      unfold tokP
      rw [hw, if_neg (by simp), if_pos this]
    · have hn : nameP (bs b) = false := hn
      cases hk : numOk b with
      | true =>
        refine condT ?_
        refine fst_k (off := 0) (by kernel_rfl) (by kernel_rfl) rfl hb25 (by simp [Tk.cells]) (cs' := (Tk.mk 2 b 0 0 0).cells.toArray) rfl fun x w6 h6 hm6 hz6 => ?_
        refine fst_k (off := 2) (by kernel_rfl) (by kernel_rfl) rfl h6 (by simp [Tk.cells]) (cs' := (Tk.mk 2 b (numP b) 0 0).cells.toArray) rfl fun x w7 h7 hm7 hz7 => ?_
        refine fin _ w7 _ rfl rfl h7 (hm7.blk (hm6.blk hb15 hne) hne) ((hm05.fresh hm6 (by omega)).fresh hm7 (by omega)) ?_
        unfold tokP
        rw [hw, hn, hk, if_neg (by simp), if_neg (by simp), if_pos rfl]
        unfold numP
        rw [hk, if_pos rfl]
      | false =>
        refine condF ?_
        refine CK_st Tryd.func63 rfl rfl (Sign_ok b w5) ?_
        rintro _ w6 ⟨rfl, rfl⟩
        cases hs : signL.contains b with
        | true =>
          refine condT ?_
          refine fst_k (off := 0) (by kernel_rfl) (by kernel_rfl) rfl hb25 (by simp [Tk.cells]) (cs' := (Tk.mk 4 b 0 0 0).cells.toArray) rfl fun x w6 h6 hm6 hz6 => ?_
          refine fin _ w6 _ rfl rfl h6 (hm6.blk hb15 hne) (hm05.fresh hm6 (by omega)) ?_
          unfold tokP
          rw [hw, hn, hk, hs, if_neg (by simp), if_neg (by simp), if_neg (by simp), if_pos rfl]
        | false =>
          refine condF ?_
          refine fin _ w6 _ rfl rfl hb25 hb15 hm05 ?_
          unfold tokP
          rw [hw, hn, hk, hs, if_neg (by simp), if_neg (by simp), if_neg (by simp), if_neg (by simp)]
end Go.Proofs.YtpkfbaagpjdifaaDoor.Tr
set_option linter.unusedVariables false
set_option linter.unusedSimpArgs false
set_option maxRecDepth 4000
namespace Go.X
open Go
theorem runP_yes {p : UInt8 → Bool} {b : Bs} {k : Nat} {c : UInt8} (h : b[k]? = some c) (hp : p c = true) : runP p b k = runP p b (k + 1) := by
  unfold runP
  obtain ⟨hk, hv⟩ := List.getElem?_eq_some_iff.1 h
  rw [List.drop_eq_getElem_cons hk, List.takeWhile_cons, hv, hp, if_pos rfl, List.length_cons]
  omega
theorem runP_no {p : UInt8 → Bool} {b : Bs} {k : Nat} (h : ∀ c, b[k]? = some c → p c = false) : runP p b k = k := by
  unfold runP
  by_cases hk : k < b.length
  · rw [List.drop_eq_getElem_cons hk, List.takeWhile_cons, h _ (List.getElem?_eq_getElem hk), if_neg (by simp)]
    rfl
  · rw [List.drop_of_length_le (by omega)]
    rfl
theorem runP_le {p : UInt8 → Bool} {b : Bs} {k : Nat} (h : k ≤ b.length) : k ≤ runP p b k ∧ runP p b k ≤ b.length := by
  unfold runP
  have h1 := List.Sublist.length_le (List.takeWhile_sublist p (l := b.drop k))
  rw [List.length_drop] at h1
  omega
theorem endP_le {b : Bs} {a : Nat} (h : a < b.length) : a < endP b a ∧ endP b a ≤ b.length := by
  unfold endP
  have h1 := runP_le (p := alnumP) (b := b) (k := a + 1) (by omega)
  have h2 := runP_le (p := digitP) (b := b) (k := a + 1) (by omega)
  dsimp only
  split
  · omega
  · split
    · omega
    · split <;> omega
end Go.X
namespace Go.Proofs.YtpkfbaagpjdifaaDoor.Tr
open Go Go.X Go.RowKit Go.Proofs.YtpkfbaagpjdifaaDoor.XD Go.Proofs.YtpkfbaagpjdifaaDoor.XK
theorem len_sl8 {A : Option Addr} {n c : Nat} (cs : List Bool) {w : World} {K : Value → World → Prop} : IK Tryd.prog .len #[52] 3 cs [.slice A n c] w K = K (.int .i64 n) w := len_sl uBytes cs A n c
theorem byte_at {w : World} {v : Value} {b : Bs} {n : Nat} {c : UInt8} (h : reads w 1 v b.length (b.map byteV)) (hc : b[n]? = some c) {K : Value → Value → World → Prop} (hk : ∀ x, K x (.int .u8 c.toNat) w) :
    VK Tryd.prog (Instr.indexAt 52 v (.int .i64 (n : Int))) w fun x w => VK Tryd.prog (Instr.loadAt 5 x) w (K x) := by
  refine ixld uBytes cB uU8 rfl h (by omega) ?_ hk
  rw [Int.toNat_natCast, List.getElem?_map, hc]
  rfl
theorem letter_call {w : World} {c : UInt8} {K : Value → World → Prop} (hk : K (.bool (letterP c)) w) : CK Tryd.prog (.func (.func 61) #[] #[]) [.int .u8 c.toNat] w K := by
  refine CK_st Tryd.func61 rfl rfl (letterR_ok _ w) ?_
  rintro _ w ⟨rfl, rfl⟩
  rw [letter_nat]
  exact hk
theorem digit_call {w : World} {c : UInt8} {K : Value → World → Prop} (hk : K (.bool (digitP c)) w) : CK Tryd.prog (.func (.func 62) #[] #[]) [.int .u8 c.toNat] w K := by
  refine CK_st Tryd.func62 rfl rfl (digitR_ok _ w) ?_
  rintro _ w ⟨rfl, rfl⟩
  rw [digit_nat]
  exact hk
theorem end_ok {w : World} {v : Value} {b : Bs} {a : Nat} (h : reads w 1 v b.length (b.map byteV)) (ha : a < b.length) (hb : b.length ≤ 1099511627776) : Rt Tryd.prog 35 #[v, .int .i64 (a : Int)] w fun r w' => r = .int .i64 (endP b a) ∧ Mod none_ w w' := by
  obtain ⟨A, cp, rfl, _⟩ := reads_cap h
  have hx : b[a]? = some b[a] := List.getElem?_eq_getElem ha
  have hg : b.getD a 0 = b[a] := by rw [List.getD_eq_getElem?_getD, hx]; rfl
  refine dispatcherref01_end_calls ?_
  unfold dispatcherref01_end_F
  refine BKadd (a := a) (b := 1) rfl rfl (by omega) (by omega) ?_
  refine byte_at h hx fun x11 => ?_
  refine letter_call ?_
  have fin : ∀ (ρ : Sl) (w' : World) (k : Nat), ρ 5 = .int .i64 k → k = endP b a → Mod none_ w w' → sx fn_ Tryd.prog 70 dispatcherref01_end_R0 (retK Tryd.prog [ResultVar.tmp 4] fun r w' => r = .int .i64 (endP b a) ∧ Mod none_ w w') ρ w' := by
    intro ρ w' k h5 hk hm
    rw [dispatcherref01_end_R0_eq]
    unfold dispatcherref01_end_R0_F
    exact ⟨by rw [← hk]; exact h5, hm⟩
  cases hl : letterP b[a] with
  | true =>
    refine condT ?_
    have he : endP b a = runP alnumP b (a + 1) := by unfold endP; rw [hg]; dsimp only; rw [hl]; rfl
    refine W_loopG dispatcherref01_end_L1_ok (fun m ρ w' => ∃ k : Nat, k ≤ b.length ∧ m = b.length - k ∧ ρ 0 = .slice A b.length cp ∧ ρ 5 = .int .i64 k ∧ runP alnumP b k = endP b a ∧ w' = w) (b.length - (a + 1)) ⟨a + 1, by omega, rfl, rfl, rfl, he.symm, rfl⟩ ?_
    rintro m ρ w2 ⟨k, hk, rfl, q0, q5, hr, rfl⟩
    rw [dispatcherref01_end_L1_eq]
    unfold dispatcherref01_end_L1_F
    rw [q0, q5, len_sl8]
    by_cases hkl : k < b.length
    · have hxk : b[k]? = some b[k] := List.getElem?_eq_getElem hkl
      simp only [↓VG_u, ↓UG_u, ↓MG_u, ↓NG_u, ↓PG_u, ↓BG_u, ↓CG_u, ↓IG_u, ↓VGtt, ↓VGtf, ↓VGft, ↓VGff, ↓UGtt, ↓UGtf, ↓UGft, ↓UGff, ↓MGtt, ↓MGtf, ↓MGft, ↓MGff, ↓NGtt, ↓NGtf, ↓NGft, ↓NGff, ↓PGtt, ↓PGtf, ↓PGft, ↓PGff, ↓BGtt, ↓BGtf, ↓BGft, ↓BGff, ↓CGtt, ↓CGtf, ↓CGft, ↓CGff, ↓IGtt, ↓IGtf, ↓IGft, ↓IGff, ↓PKt, ↓PKf, ↓CDt, ↓CDf, ↓NOTt, ↓NOTf, ↓NK_ptr, ↓LTt (show (k : Int) < b.length by omega)]
      refine byte_at h hxk fun x21 => ?_
      refine letter_call ?_
      have step : ∀ ρ' : Sl, ρ' 0 = .slice A b.length cp → ρ' 5 = .int .i64 ((k : Int) + 1) → alnumP b[k] = true → ∃ m', m' < b.length - k ∧ ∃ k : Nat, k ≤ b.length ∧ m' = b.length - k ∧ ρ' 0 = .slice A b.length cp ∧ ρ' 5 = .int .i64 k ∧ runP alnumP b k = endP b a ∧ w2 = w2 := by
        intro ρ' p0 p5 hal
        exact ⟨_, by omega, k + 1, hkl, rfl, p0, p5, by rw [← runP_yes hxk hal]; exact hr, rfl⟩
      cases hlk : letterP b[k] with
      | true =>
        simp only [↓VG_u, ↓UG_u, ↓MG_u, ↓NG_u, ↓PG_u, ↓BG_u, ↓CG_u, ↓IG_u, ↓VGtt, ↓VGtf, ↓VGft, ↓VGff, ↓UGtt, ↓UGtf, ↓UGft, ↓UGff, ↓MGtt, ↓MGtf, ↓MGft, ↓MGff, ↓NGtt, ↓NGtf, ↓NGft, ↓NGff, ↓PGtt, ↓PGtf, ↓PGft, ↓PGff, ↓BGtt, ↓BGtf, ↓BGft, ↓BGff, ↓CGtt, ↓CGtf, ↓CGft, ↓CGff, ↓IGtt, ↓IGtf, ↓IGft, ↓IGff, ↓PKt, ↓PKf, ↓CDt, ↓CDf, ↓NOTt, ↓NOTf, ↓NK_ptr]
        refine BKadd (a := k) (b := 1) rfl rfl (by omega) (by omega) ?_
        exact step _ q0 rfl (by unfold alnumP; rw [hlk]; rfl)
      | false =>
        simp only [↓VG_u, ↓UG_u, ↓MG_u, ↓NG_u, ↓PG_u, ↓BG_u, ↓CG_u, ↓IG_u, ↓VGtt, ↓VGtf, ↓VGft, ↓VGff, ↓UGtt, ↓UGtf, ↓UGft, ↓UGff, ↓MGtt, ↓MGtf, ↓MGft, ↓MGff, ↓NGtt, ↓NGtf, ↓NGft, ↓NGff, ↓PGtt, ↓PGtf, ↓PGft, ↓PGff, ↓BGtt, ↓BGtf, ↓BGft, ↓BGff, ↓CGtt, ↓CGtf, ↓CGft, ↓CGff, ↓IGtt, ↓IGtf, ↓IGft, ↓IGff, ↓PKt, ↓PKf, ↓CDt, ↓CDf, ↓NOTt, ↓NOTf, ↓NK_ptr]
        refine byte_at h hxk fun x27 => ?_
        refine digit_call ?_
        cases hdk : digitP b[k] with
        | true =>
          simp only [↓VG_u, ↓UG_u, ↓MG_u, ↓NG_u, ↓PG_u, ↓BG_u, ↓CG_u, ↓IG_u, ↓VGtt, ↓VGtf, ↓VGft, ↓VGff, ↓UGtt, ↓UGtf, ↓UGft, ↓UGff, ↓MGtt, ↓MGtf, ↓MGft, ↓MGff, ↓NGtt, ↓NGtf, ↓NGft, ↓NGff, ↓PGtt, ↓PGtf, ↓PGft, ↓PGff, ↓BGtt, ↓BGtf, ↓BGft, ↓BGff, ↓CGtt, ↓CGtf, ↓CGft, ↓CGff, ↓IGtt, ↓IGtf, ↓IGft, ↓IGff, ↓PKt, ↓PKf, ↓CDt, ↓CDf, ↓NOTt, ↓NOTf, ↓NK_ptr]
          refine BKadd (a := k) (b := 1) rfl rfl (by omega) (by omega) ?_
          exact step _ q0 rfl (by unfold alnumP; rw [hlk, hdk]; rfl)
        | false =>
          simp only [↓VG_u, ↓UG_u, ↓MG_u, ↓NG_u, ↓PG_u, ↓BG_u, ↓CG_u, ↓IG_u, ↓VGtt, ↓VGtf, ↓VGft, ↓VGff, ↓UGtt, ↓UGtf, ↓UGft, ↓UGff, ↓MGtt, ↓MGtf, ↓MGft, ↓MGff, ↓NGtt, ↓NGtf, ↓NGft, ↓NGff, ↓PGtt, ↓PGtf, ↓PGft, ↓PGff, ↓BGtt, ↓BGtf, ↓BGft, ↓BGff, ↓CGtt, ↓CGtf, ↓CGft, ↓CGff, ↓IGtt, ↓IGtf, ↓IGft, ↓IGff, ↓PKt, ↓PKf, ↓CDt, ↓CDf, ↓NOTt, ↓NOTf, ↓NK_ptr]
          rw [sq_x, bk_x, bk_n, sq_n]
          refine fin _ w2 k q5 ?_ (Mod.refl _ _)
          rw [← hr, runP_no]
          intro c hc
          rw [hxk] at hc
          cases hc
          unfold alnumP
          rw [hlk, hdk]; rfl
    · simp only [↓VG_u, ↓UG_u, ↓MG_u, ↓NG_u, ↓PG_u, ↓BG_u, ↓CG_u, ↓IG_u, ↓VGtt, ↓VGtf, ↓VGft, ↓VGff, ↓UGtt, ↓UGtf, ↓UGft, ↓UGff, ↓MGtt, ↓MGtf, ↓MGft, ↓MGff, ↓NGtt, ↓NGtf, ↓NGft, ↓NGff, ↓PGtt, ↓PGtf, ↓PGft, ↓PGff, ↓BGtt, ↓BGtf, ↓BGft, ↓BGff, ↓CGtt, ↓CGtf, ↓CGft, ↓CGff, ↓IGtt, ↓IGtf, ↓IGft, ↓IGff, ↓PKt, ↓PKf, ↓CDt, ↓CDf, ↓NOTt, ↓NOTf, ↓NK_ptr, ↓LTf (show (b.length : Int) ≤ k by omega)]
      rw [sq_x, bk_x, bk_n, sq_n]
      refine fin _ w2 k q5 ?_ (Mod.refl _ _)
      rw [← hr, runP_no]
      intro c hc
      rw [List.getElem?_eq_none (by omega)] at hc
      cases hc
  | false =>
    refine condF ?_
    refine byte_at h hx fun x37 => ?_
    refine digit_call ?_
    cases hd : digitP b[a] with
    | true =>
      refine condT ?_
      have he : endP b a = runP digitP b (a + 1) := by unfold endP; rw [hg]; dsimp only; rw [hl, hd]; rfl
      refine W_loopG dispatcherref01_end_L2_ok (fun m ρ w' => ∃ k : Nat, k ≤ b.length ∧ m = b.length - k ∧ ρ 0 = .slice A b.length cp ∧ ρ 5 = .int .i64 k ∧ runP digitP b k = endP b a ∧ w' = w) (b.length - (a + 1)) ⟨a + 1, by omega, rfl, rfl, rfl, he.symm, rfl⟩ ?_
      rintro m ρ w2 ⟨k, hk, rfl, q0, q5, hr, rfl⟩
      rw [dispatcherref01_end_L2_eq]
      unfold dispatcherref01_end_L2_F
      rw [q0, q5, len_sl8]
      by_cases hkl : k < b.length
      · have hxk : b[k]? = some b[k] := List.getElem?_eq_getElem hkl
        simp only [↓VG_u, ↓UG_u, ↓MG_u, ↓NG_u, ↓PG_u, ↓BG_u, ↓CG_u, ↓IG_u, ↓VGtt, ↓VGtf, ↓VGft, ↓VGff, ↓UGtt, ↓UGtf, ↓UGft, ↓UGff, ↓MGtt, ↓MGtf, ↓MGft, ↓MGff, ↓NGtt, ↓NGtf, ↓NGft, ↓NGff, ↓PGtt, ↓PGtf, ↓PGft, ↓PGff, ↓BGtt, ↓BGtf, ↓BGft, ↓BGff, ↓CGtt, ↓CGtf, ↓CGft, ↓CGff, ↓IGtt, ↓IGtf, ↓IGft, ↓IGff, ↓PKt, ↓PKf, ↓CDt, ↓CDf, ↓NOTt, ↓NOTf, ↓NK_ptr, ↓LTt (show (k : Int) < b.length by omega)]
        refine byte_at h hxk fun x21 => ?_
        refine digit_call ?_
        cases hdk : digitP b[k] with
        | true =>
          simp only [↓VG_u, ↓UG_u, ↓MG_u, ↓NG_u, ↓PG_u, ↓BG_u, ↓CG_u, ↓IG_u, ↓VGtt, ↓VGtf, ↓VGft, ↓VGff, ↓UGtt, ↓UGtf, ↓UGft, ↓UGff, ↓MGtt, ↓MGtf, ↓MGft, ↓MGff, ↓NGtt, ↓NGtf, ↓NGft, ↓NGff, ↓PGtt, ↓PGtf, ↓PGft, ↓PGff, ↓BGtt, ↓BGtf, ↓BGft, ↓BGff, ↓CGtt, ↓CGtf, ↓CGft, ↓CGff, ↓IGtt, ↓IGtf, ↓IGft, ↓IGff, ↓PKt, ↓PKf, ↓CDt, ↓CDf, ↓NOTt, ↓NOTf, ↓NK_ptr]
          refine BKadd (a := k) (b := 1) rfl rfl (by omega) (by omega) ?_
          exact ⟨b.length - (k + 1), by omega, k + 1, hkl, rfl, q0, rfl, by rw [← runP_yes hxk hdk]; exact hr, rfl⟩
        | false =>
          simp only [↓VG_u, ↓UG_u, ↓MG_u, ↓NG_u, ↓PG_u, ↓BG_u, ↓CG_u, ↓IG_u, ↓VGtt, ↓VGtf, ↓VGft, ↓VGff, ↓UGtt, ↓UGtf, ↓UGft, ↓UGff, ↓MGtt, ↓MGtf, ↓MGft, ↓MGff, ↓NGtt, ↓NGtf, ↓NGft, ↓NGff, ↓PGtt, ↓PGtf, ↓PGft, ↓PGff, ↓BGtt, ↓BGtf, ↓BGft, ↓BGff, ↓CGtt, ↓CGtf, ↓CGft, ↓CGff, ↓IGtt, ↓IGtf, ↓IGft, ↓IGff, ↓PKt, ↓PKf, ↓CDt, ↓CDf, ↓NOTt, ↓NOTf, ↓NK_ptr]
          rw [sq_x, bk_x, bk_n, sq_n]
          refine fin _ w2 k q5 ?_ (Mod.refl _ _)
          rw [← hr, runP_no]
          intro c hc
          rw [hxk] at hc
          cases hc
          exact hdk
      · simp only [↓VG_u, ↓UG_u, ↓MG_u, ↓NG_u, ↓PG_u, ↓BG_u, ↓CG_u, ↓IG_u, ↓VGtt, ↓VGtf, ↓VGft, ↓VGff, ↓UGtt, ↓UGtf, ↓UGft, ↓UGff, ↓MGtt, ↓MGtf, ↓MGft, ↓MGff, ↓NGtt, ↓NGtf, ↓NGft, ↓NGff, ↓PGtt, ↓PGtf, ↓PGft, ↓PGff, ↓BGtt, ↓BGtf, ↓BGft, ↓BGff, ↓CGtt, ↓CGtf, ↓CGft, ↓CGff, ↓IGtt, ↓IGtf, ↓IGft, ↓IGff, ↓PKt, ↓PKf, ↓CDt, ↓CDf, ↓NOTt, ↓NOTf, ↓NK_ptr, ↓LTf (show (b.length : Int) ≤ k by omega)]
        rw [sq_x, bk_x, bk_n, sq_n]
        refine fin _ w2 k q5 ?_ (Mod.refl _ _)
        rw [← hr, runP_no]
        intro c hc
        rw [List.getElem?_eq_none (by omega)] at hc
        cases hc
    | false =>
      refine condF ?_
      rw [len_sl8]
      have he : endP b a = if a + 1 < b.length ∧ signL.contains ((b.take (a + 2)).drop a) then a + 2 else a + 1 := by unfold endP; rw [hg]; dsimp only; rw [hl, hd]; rfl
      by_cases hk : a + 1 < b.length
      · simp only [↓VG_u, ↓UG_u, ↓MG_u, ↓NG_u, ↓PG_u, ↓BG_u, ↓CG_u, ↓IG_u, ↓VGtt, ↓VGtf, ↓VGft, ↓VGff, ↓UGtt, ↓UGtf, ↓UGft, ↓UGff, ↓MGtt, ↓MGtf, ↓MGft, ↓MGff, ↓NGtt, ↓NGtf, ↓NGft, ↓NGff, ↓PGtt, ↓PGtf, ↓PGft, ↓PGff, ↓BGtt, ↓BGtf, ↓BGft, ↓BGff, ↓CGtt, ↓CGtf, ↓CGft, ↓CGff, ↓IGtt, ↓IGtf, ↓IGft, ↓IGff, ↓PKt, ↓PKf, ↓CDt, ↓CDf, ↓NOTt, ↓NOTf, ↓NK_ptr, ↓LTt (show ((a : Int) + 1) < b.length by omega)]
        refine BKadd (a := (a : Int) + 1) (b := 1) rfl rfl (by omega) (by omega) ?_
        rw [show ((a : Int) + 1 + 1) = ((a + 2 : Nat) : Int) by omega]
        refine cut_lh uBytes cB h (by omega) (by omega) fun v' hv' => ?_
        have hcut : ((b.map byteV).take ((a + 2) * (0 + 1))).drop (a * (0 + 1)) = ((b.take (a + 2)).drop a).map byteV := by
          rw [Nat.mul_one, Nat.mul_one, List.map_drop, List.map_take]
        rw [hcut] at hv'
        refine str_of uBytes uU8 uS hv' ?_
        refine CK_st Tryd.func63 rfl rfl (Sign_ok ((b.take (a + 2)).drop a) w) ?_
        rintro _ w ⟨rfl, rfl⟩
        cases hs : signL.contains ((b.take (a + 2)).drop a) with
        | true =>
          simp only [↓VG_u, ↓UG_u, ↓MG_u, ↓NG_u, ↓PG_u, ↓BG_u, ↓CG_u, ↓IG_u, ↓VGtt, ↓VGtf, ↓VGft, ↓VGff, ↓UGtt, ↓UGtf, ↓UGft, ↓UGff, ↓MGtt, ↓MGtf, ↓MGft, ↓MGff, ↓NGtt, ↓NGtf, ↓NGft, ↓NGff, ↓PGtt, ↓PGtf, ↓PGft, ↓PGff, ↓BGtt, ↓BGtf, ↓BGft, ↓BGff, ↓CGtt, ↓CGtf, ↓CGft, ↓CGff, ↓IGtt, ↓IGtf, ↓IGft, ↓IGff, ↓PKt, ↓PKf, ↓CDt, ↓CDf, ↓NOTt, ↓NOTf, ↓NK_ptr]
          refine BKadd (a := (a : Int) + 1) (b := 1) rfl rfl (by omega) (by omega) ?_
          refine fin _ w (a + 2) ?_ (by rw [he, if_pos ⟨hk, hs⟩]) (Mod.refl _ _)
          show Value.int .i64 ((a : Int) + 1 + 1) = _
          congr 1
        | false =>
          simp only [↓VG_u, ↓UG_u, ↓MG_u, ↓NG_u, ↓PG_u, ↓BG_u, ↓CG_u, ↓IG_u, ↓VGtt, ↓VGtf, ↓VGft, ↓VGff, ↓UGtt, ↓UGtf, ↓UGft, ↓UGff, ↓MGtt, ↓MGtf, ↓MGft, ↓MGff, ↓NGtt, ↓NGtf, ↓NGft, ↓NGff, ↓PGtt, ↓PGtf, ↓PGft, ↓PGff, ↓BGtt, ↓BGtf, ↓BGft, ↓BGff, ↓CGtt, ↓CGtf, ↓CGft, ↓CGff, ↓IGtt, ↓IGtf, ↓IGft, ↓IGff, ↓PKt, ↓PKf, ↓CDt, ↓CDf, ↓NOTt, ↓NOTf, ↓NK_ptr]
          refine fin _ w (a + 1) rfl (by rw [he, if_neg (fun q => by rw [hs] at q; exact absurd q.2 (by simp))]) (Mod.refl _ _)
      · simp only [↓VG_u, ↓UG_u, ↓MG_u, ↓NG_u, ↓PG_u, ↓BG_u, ↓CG_u, ↓IG_u, ↓VGtt, ↓VGtf, ↓VGft, ↓VGff, ↓UGtt, ↓UGtf, ↓UGft, ↓UGff, ↓MGtt, ↓MGtf, ↓MGft, ↓MGff, ↓NGtt, ↓NGtf, ↓NGft, ↓NGff, ↓PGtt, ↓PGtf, ↓PGft, ↓PGff, ↓BGtt, ↓BGtf, ↓BGft, ↓BGff, ↓CGtt, ↓CGtf, ↓CGft, ↓CGff, ↓IGtt, ↓IGtf, ↓IGft, ↓IGff, ↓PKt, ↓PKf, ↓CDt, ↓CDf, ↓NOTt, ↓NOTf, ↓NK_ptr, ↓LTf (show (b.length : Int) ≤ (a : Int) + 1 by omega)]
        refine fin _ w (a + 1) rfl (by rw [he, if_neg (fun q => hk q.1)]) (Mod.refl _ _)
theorem Scan_ok {w : World} {v : Value} {b : Bs} {l : List Tk} (h : reads w 1 v b.length (b.map byteV)) (hs : scanP b = some l) : Rt Tryd.prog 19 #[v] w fun r w' => ∃ lv, r = .tuple #[lv, .int .i64 0, .int .i64 0, .int .i64 0] ∧ w'.ownsRow w.heap.size tT 5 lv l.length (l.flatMap Tk.cells) ∧ Mod none_ w w' := by
  unfold scanP at hs
  split at hs
  · rename_i hb
    obtain ⟨A, cp, rfl, _⟩ := reads_cap h
    refine dispatcherref01_Scan_calls ?_
    unfold dispatcherref01_Scan_F
    rw [len_sl8]
    simp only [↓VG_u, ↓UG_u, ↓MG_u, ↓NG_u, ↓PG_u, ↓BG_u, ↓CG_u, ↓IG_u, ↓VGtt, ↓VGtf, ↓VGft, ↓VGff, ↓UGtt, ↓UGtf, ↓UGft, ↓UGff, ↓MGtt, ↓MGtf, ↓MGft, ↓MGff, ↓NGtt, ↓NGtf, ↓NGft, ↓NGff, ↓PGtt, ↓PGtf, ↓PGft, ↓PGff, ↓BGtt, ↓BGtf, ↓BGft, ↓BGff, ↓CGtt, ↓CGtf, ↓CGft, ↓CGff, ↓IGtt, ↓IGtf, ↓IGft, ↓IGff, ↓PKt, ↓PKf, ↓CDt, ↓CDf, ↓NOTt, ↓NOTf, ↓NK_ptr, ↓GTf (show (b.length : Int) ≤ 20000 by omega)]
    refine W_loopG dispatcherref01_Scan_L0_ok (fun m ρ w' => ∃ (a : Nat) (acc : List Tk), a ≤ b.length ∧ scanL b m a 1 (a + 1) acc = some l ∧ acc.length ≤ a ∧ ρ 0 = .slice A b.length cp ∧ ρ 7 = .int .i64 a ∧ ρ 8 = .int .i64 1 ∧ ρ 9 = .int .i64 ((a : Int) + 1) ∧ w'.ownsRow w.heap.size tT 5 (ρ 6) acc.length (acc.flatMap Tk.cells) ∧ Mod none_ w w') (b.length + 1)
      ⟨0, [], Nat.zero_le _, hs, Nat.le_refl _, rfl, rfl, rfl, rfl, owns_none _ _ _ _, Mod.refl _ _⟩ ?_
    rintro m ρ w2 ⟨a, acc, ha, hsc, hacc, q0, q7, q8, q9, ho, hm⟩
    cases m with
    | zero => simp [scanL] at hsc
    | succ m =>
      rw [dispatcherref01_Scan_L0_eq]
      unfold dispatcherref01_Scan_L0_F
      rw [q0, q7, q8, q9, len_sl8]
      rw [scanL] at hsc
      by_cases hal : a < b.length
      · have hx : b[a]? = some b[a] := List.getElem?_eq_getElem hal
        have hg : b.getD a 0 = b[a] := by rw [List.getD_eq_getElem?_getD, hx]; rfl
        have h2 := reads_mod h hm (fun _ _ _ => id)
        rw [if_pos hal] at hsc
        dsimp only at hsc
        rw [hg] at hsc
        simp only [↓VG_u, ↓UG_u, ↓MG_u, ↓NG_u, ↓PG_u, ↓BG_u, ↓CG_u, ↓IG_u, ↓VGtt, ↓VGtf, ↓VGft, ↓VGff, ↓UGtt, ↓UGtf, ↓UGft, ↓UGff, ↓MGtt, ↓MGtf, ↓MGft, ↓MGff, ↓NGtt, ↓NGtf, ↓NGft, ↓NGff, ↓PGtt, ↓PGtf, ↓PGft, ↓PGff, ↓BGtt, ↓BGtf, ↓BGft, ↓BGff, ↓CGtt, ↓CGtf, ↓CGft, ↓CGff, ↓IGtt, ↓IGtf, ↓IGft, ↓IGff, ↓PKt, ↓PKf, ↓CDt, ↓CDf, ↓NOTt, ↓NOTf, ↓NK_ptr, ↓LTt (show (a : Int) < b.length by omega)]
        refine byte_at h2 hx fun x22 => ?_
        have ne : ∀ (c : UInt8) (z : Int), (c.toNat : Int) = z → b[a] ≠ c → ((b[a].toNat : Nat) : Int) ≠ z := fun c z hz hc q => hc (UInt8.toNat.inj (by omega))
        by_cases h32 : b[a] = 32
        · rw [if_pos h32] at hsc
          simp only [↓VG_u, ↓UG_u, ↓MG_u, ↓NG_u, ↓PG_u, ↓BG_u, ↓CG_u, ↓IG_u, ↓VGtt, ↓VGtf, ↓VGft, ↓VGff, ↓UGtt, ↓UGtf, ↓UGft, ↓UGff, ↓MGtt, ↓MGtf, ↓MGft, ↓MGff, ↓NGtt, ↓NGtf, ↓NGft, ↓NGff, ↓PGtt, ↓PGtf, ↓PGft, ↓PGff, ↓BGtt, ↓BGtf, ↓BGft, ↓BGff, ↓CGtt, ↓CGtf, ↓CGft, ↓CGff, ↓IGtt, ↓IGtf, ↓IGft, ↓IGff, ↓PKt, ↓PKf, ↓CDt, ↓CDf, ↓NOTt, ↓NOTf, ↓NK_ptr, ↓EQf (ne 10 10 rfl (by rw [h32]; decide)), ↓EQt (show ((b[a].toNat : Nat) : Int) = 32 by rw [h32]; rfl)]
          refine BKadd (a := a) (b := 1) rfl rfl (by omega) (by omega) ?_
          refine BKadd (a := (a : Int) + 1) (b := 1) rfl rfl (by omega) (by omega) ?_
          exact ⟨m, Nat.lt_succ_self m, a + 1, acc, hal, by rw [← hsc]; congr 1, by omega, q0, rfl, q8, by show Value.int .i64 ((a : Int) + 1 + 1) = _; congr 1, ho, hm⟩
        · rw [if_neg h32] at hsc
          by_cases hno : b[a] = 10 ∨ b[a] = 9 ∨ b[a] = 13 ∨ b[a] = 35
          · rw [if_pos hno] at hsc; cases hsc
          · rw [if_neg hno] at hsc
            have n1 := ne 10 10 rfl (fun q => hno (.inl q))
            have n2 := ne 32 32 rfl h32
            have n3 := ne 9 9 rfl (fun q => hno (.inr (.inl q)))
            have n4 := ne 13 13 rfl (fun q => hno (.inr (.inr (.inl q))))
            have n5 := ne 35 35 rfl (fun q => hno (.inr (.inr (.inr q))))
            simp only [↓VG_u, ↓UG_u, ↓MG_u, ↓NG_u, ↓PG_u, ↓BG_u, ↓CG_u, ↓IG_u, ↓VGtt, ↓VGtf, ↓VGft, ↓VGff, ↓UGtt, ↓UGtf, ↓UGft, ↓UGff, ↓MGtt, ↓MGtf, ↓MGft, ↓MGff, ↓NGtt, ↓NGtf, ↓NGft, ↓NGff, ↓PGtt, ↓PGtf, ↓PGft, ↓PGff, ↓BGtt, ↓BGtf, ↓BGft, ↓BGff, ↓CGtt, ↓CGtf, ↓CGft, ↓CGff, ↓IGtt, ↓IGtf, ↓IGft, ↓IGff, ↓PKt, ↓PKf, ↓CDt, ↓CDf, ↓NOTt, ↓NOTf, ↓NK_ptr, ↓EQf n1, ↓EQf n2, ↓EQf n3, ↓EQf n4, ↓EQf n5]
            obtain ⟨hlt, hle⟩ := endP_le hal
            refine CK_st Tryd.func35 rfl rfl (end_ok h2 hal (by omega)) ?_
            rintro _ w3 ⟨rfl, hm3⟩
            have h3 := reads_mod h2 hm3 (fun _ _ _ => id)
            refine cut_lh uBytes cB h3 (by omega) hle fun v' hv' => ?_
            have hcut : ((b.map byteV).take (endP b a * (0 + 1))).drop (a * (0 + 1)) = ((b.take (endP b a)).drop a).map byteV := by
              rw [Nat.mul_one, Nat.mul_one, List.map_drop, List.map_take]
            rw [hcut] at hv'
            refine str_of uBytes uU8 uS hv' ?_
            obtain ⟨t, ht⟩ : ∃ t, t = (b.take (endP b a)).drop a := ⟨_, rfl⟩
            have htl : t.length ≤ 20000 := by rw [ht, List.length_drop, List.length_take]; omega
            rw [← ht] at hsc ⊢
            refine CK_st Tryd.func36 rfl rfl (OfTx_ok t w3 (by omega)) ?_
            rintro _ w4 ⟨rfl, hm4⟩
            refine lcl_k (cs := (Tk.mk (tokP t).1 t (tokP t).2 0 0).cells.toArray) zTkg _ iTk rfl (tk_one _) fun w5 hb5 hm5 hz5 => ?_
            have hm25 := (hm3.trans hm4).trans hm5
            have hm05 := hm.trans hm25
            have hz : (tokP t).1 ≠ 0 := by
              intro q
              rw [if_pos q] at hsc
              cases hsc
            rw [if_neg hz] at hsc
            obtain ⟨k0, k1, k2, k3, k4⟩ := tk_fo hb5
            simp only [↓VG_u, ↓UG_u, ↓MG_u, ↓NG_u, ↓PG_u, ↓BG_u, ↓CG_u, ↓IG_u, ↓VGtt, ↓VGtf, ↓VGft, ↓VGff, ↓UGtt, ↓UGtf, ↓UGft, ↓UGff, ↓MGtt, ↓MGtf, ↓MGft, ↓MGff, ↓NGtt, ↓NGtf, ↓NGft, ↓NGff, ↓PGtt, ↓PGtf, ↓PGft, ↓PGff, ↓BGtt, ↓BGtf, ↓BGft, ↓BGff, ↓CGtt, ↓CGtf, ↓CGft, ↓CGff, ↓IGtt, ↓IGtf, ↓IGft, ↓IGff, ↓PKt, ↓PKf, ↓CDt, ↓CDf, ↓NOTt, ↓NOTf, ↓NK_ptr, ↓k0.e, ↓EQf hz]
            have hsz := hm4.size
            have hsz3 := hm3.size
            have hsz2 := hm.size
            refine fst_k (off := 3) (by kernel_rfl) (by kernel_rfl) rfl hb5 (by simp [Tk.cells]) (cs' := (Tk.mk (tokP t).1 t (tokP t).2 1 0).cells.toArray) rfl fun x w6 h6 hm6 hz6 => ?_
            refine fst_k (off := 4) (by kernel_rfl) (by kernel_rfl) rfl h6 (by simp [Tk.cells]) (cs' := (Tk.mk (tokP t).1 t (tokP t).2 1 ((a : Int) + 1)).cells.toArray) rfl fun x w7 h7 hm7 hz7 => ?_
            refine ldB (cs := (Tk.mk (tokP t).1 t (tokP t).2 1 ((a : Int) + 1)).cells.toArray) Tryd.underlying75 rfl iTk h7 ?_
            have hm07 := (hm05.fresh hm6 (by omega)).fresh hm7 (by omega)
            have ho5 := owns_mod ho hm25 (fun _ _ => id)
            have ho7 : w7.ownsRow w.heap.size tT 5 (ρ 6) acc.length (acc.flatMap Tk.cells) := by
              have hlo : ∀ k, (ρ 6).ownBlock = some k → k < w4.heap.size := fun k hk => by have := owns_lt ho hk; omega
              exact owns_mod (owns_mod ho5 hm6 fun k hk q => by have := hlo k hk; omega) hm7 fun k hk q => by have := hlo k hk; omega
            refine snoc (cs := (Tk.mk (tokP t).1 t (tokP t).2 1 ((a : Int) + 1)).cells.toArray) eTks ho7 (by kernel_rfl) rfl (by intro u hu; simp [Tk.cells, txt] at hu; rcases hu with rfl | rfl | rfl | rfl | rfl <;> rfl) (by unfold maxLen; omega) (by omega) hm07.size fun y v8 w8 ho8 hm8 _ => ?_
            refine BKadd (a := (a : Int) + 1) (b := endP b a) rfl rfl (by omega) (by omega) ?_
            rw [BK_sub, wrap_i (n := (a : Int) + 1 + endP b a - a) (by omega) (by omega)]
            refine ⟨m, Nat.lt_succ_self m, endP b a, acc ++ [Tk.mk (tokP t).1 t (tokP t).2 1 ((a : Int) + 1)], hle, ?_, by rw [List.length_append]; simp; omega, q0, rfl, q8, ?_, ?_, ?_⟩
            · rw [← hsc]
              congr 1
              omega
            · show Value.int .i64 ((a : Int) + 1 + endP b a - a) = _
              congr 1
              omega
            · show w8.ownsRow w.heap.size tT 5 v8 _ _
              rw [List.length_append, List.flatMap_append]
              simpa using ho8
            · exact hm07.then hm8 fun i hi q => by have := owns_low ho q.symm; omega
      · rw [if_neg hal] at hsc
        obtain rfl : acc = l := by simpa using hsc
        simp only [↓VG_u, ↓UG_u, ↓MG_u, ↓NG_u, ↓PG_u, ↓BG_u, ↓CG_u, ↓IG_u, ↓VGtt, ↓VGtf, ↓VGft, ↓VGff, ↓UGtt, ↓UGtf, ↓UGft, ↓UGff, ↓MGtt, ↓MGtf, ↓MGft, ↓MGff, ↓NGtt, ↓NGtf, ↓NGft, ↓NGff, ↓PGtt, ↓PGtf, ↓PGft, ↓PGff, ↓BGtt, ↓BGtf, ↓BGft, ↓BGff, ↓CGtt, ↓CGtf, ↓CGft, ↓CGff, ↓IGtt, ↓IGtf, ↓IGft, ↓IGff, ↓PKt, ↓PKf, ↓CDt, ↓CDf, ↓NOTt, ↓NOTf, ↓NK_ptr, ↓LTf (show (b.length : Int) ≤ a by omega)]
        rw [sq_x, bk_x, sq_n, dispatcherref01_Scan_R1_eq]
        unfold dispatcherref01_Scan_R1_F
        exact ⟨_, rfl, ho, hm⟩
  · cases hs
end Go.Proofs.YtpkfbaagpjdifaaDoor.Tr
set_option linter.unusedVariables false
set_option linter.unusedSimpArgs false
set_option maxRecDepth 4000
namespace Go.Proofs.YtpkfbaagpjdifaaDoor.Tr
open Go Go.X Go.RowKit Go.Proofs.YtpkfbaagpjdifaaDoor.XD Go.Proofs.YtpkfbaagpjdifaaDoor.XK
abbrev tC : TypeId := 79
abbrev pq (b : Nat) : Value := .pointer (some ⟨b, 0, none⟩)
structure PW (w : World) (lv : Value) (l : List Tk) (c a : Nat) : Prop where
  toks : w.ownsRow 0 tT 5 lv l.length (l.flatMap Tk.cells)
  cur : w.heap[c]? = some (.cells #[lv, .int .i64 a, .int .i64 (-1)] tC (0, 0))
structure Good (l : List Tk) : Prop where
  all : ∀ t ∈ l, t.good = true
  len : l.length ≤ 20000
section
variable {w w' : World} {lv : Value} {l : List Tk} {c a : Nat}
theorem PW.mod0 (h : PW w lv l c a) (hm : Mod none_ w w') : PW w' lv l c a := ⟨owns_mod h.toks hm fun _ _ => id, hm.blk h.cur id⟩
theorem PW.off (h : PW w lv l c a) {S : Nat → Prop} (hm : Mod S w w') (hS : ∀ k, S k → c < k ∧ ∀ g, lv.ownBlock = some g → g < k) : PW w' lv l c a :=
  ⟨owns_mod h.toks hm fun k hk q => by have := (hS k q).2 k hk; omega, hm.blk h.cur fun q => by have := (hS c q).1; omega⟩
theorem PW.fresh (h : PW w lv l c a) {b : Nat} (hb : w.heap.size ≤ b) {w1 w2 : World} (h1 : Mod none_ w w1) (h2 : Mod (fun i => i = b) w1 w2) : PW w2 lv l c a := by
  refine (h.mod0 h1).off h2 fun k q => ?_
  subst q
  exact ⟨Nat.lt_of_lt_of_le (blk_lt h.cur) hb, fun g hg => Nat.lt_of_lt_of_le (owns_lt h.toks hg) hb⟩
theorem PW.go (h : PW w lv l c a) {a' : Nat} (hm : Mod (fun i => i = c) w w') (hc : w'.heap[c]? = some (.cells #[lv, .int .i64 a', .int .i64 (-1)] tC (0, 0))) : PW w' lv l c a' :=
  ⟨owns_mod h.toks hm fun k hk q => owns_ne_blk h.toks h.cur (by decide) (by rw [hk, q]), hc⟩
end
theorem cur_fo {w : World} {lv : Value} {l : List Tk} {c a : Nat} (h : PW w lv l c a) : FO Tryd.prog w tC 0 0 ⟨c, 0, none⟩ 49 lv ∧ FO Tryd.prog w tC 1 1 ⟨c, 0, none⟩ 3 (.int .i64 a) ∧ FO Tryd.prog w tC 2 2 ⟨c, 0, none⟩ 3 (.int .i64 (-1)) :=
  ⟨FO.blk h.cur (by kernel_rfl) uTks rfl rfl, FO.blk h.cur (by kernel_rfl) uI rfl rfl, FO.blk h.cur (by kernel_rfl) uI rfl rfl⟩
theorem good_ok {w : World} {lv : Value} {l : List Tk} {c a : Nat} (h : PW w lv l c a) : Rt Tryd.prog 42 #[pq c] w fun v w' => v = .bool true ∧ w' = w := by
  obtain ⟨f0, f1, f2⟩ := cur_fo h
  refine dispatcherref02_cursor_good_calls ?_
  unfold dispatcherref02_cursor_good_F
  simp only [↓VG_u, ↓UG_u, ↓MG_u, ↓NG_u, ↓PG_u, ↓BG_u, ↓CG_u, ↓IG_u, ↓VGtt, ↓VGtf, ↓VGft, ↓VGff, ↓UGtt, ↓UGtf, ↓UGft, ↓UGff, ↓MGtt, ↓MGtf, ↓MGft, ↓MGff, ↓NGtt, ↓NGtf, ↓NGft, ↓NGff, ↓PGtt, ↓PGtf, ↓PGft, ↓PGff, ↓BGtt, ↓BGtf, ↓BGft, ↓BGff, ↓CGtt, ↓CGtf, ↓CGft, ↓CGff, ↓IGtt, ↓IGtf, ↓IGft, ↓IGff, ↓PKt, ↓PKf, ↓CDt, ↓CDf, ↓NOTt, ↓NOTf, ↓NK_ptr, ↓f2.e, ↓LTt (show (-1 : Int) < 0 by omega), and_self]
theorem adv {w : World} {lv : Value} {l : List Tk} {c a : Nat} (h : PW w lv l c a) (ha : a < 1099511627776) {ox oy : Operand} {K : Value → Value → Value → Value → Value → Value → World → Prop}
    (hk : ∀ x1 x2 x3 x4 x5 x6 w', PW w' lv l c (a + 1) → Mod (fun i => i = c) w w' → w'.heap.size = w.heap.size → K x1 x2 x3 x4 x5 x6 w') :
    NK Tryd.prog (pq c) w fun x1 w => VK Tryd.prog (Instr.fieldAt 79 x1 1) w fun x2 w => VK Tryd.prog (Instr.loadAt 3 x2) w fun x3 w => BK Tryd.prog .add 3 ox oy x3 (.int .i64 1) w fun x4 w => NK Tryd.prog (pq c) w fun x5 w => VK Tryd.prog (Instr.fieldAt 79 x5 1) w fun x6 w => UK Tryd.prog (Instr.storeAt 3 x6 x4) w fun _ w => K x1 x2 x3 x4 x5 x6 w := by
  obtain ⟨f0, f1, f2⟩ := cur_fo h
  simp only [↓NK_ptr, ↓f1.e]
  refine BKadd (a := a) (b := 1) rfl rfl (by omega) (by omega) ?_
  refine fst_k (off := 1) (by kernel_rfl) (by kernel_rfl) rfl h.cur (by simp) (cs' := #[lv, .int .i64 ((a + 1 : Nat) : Int), .int .i64 (-1)]) rfl fun x w2 h2 hm2 hz2 => ?_
  exact hk _ _ _ _ _ _ _ (h.go hm2 h2) hm2 hz2
theorem adv2 {w : World} {lv : Value} {l : List Tk} {c a : Nat} (h : PW w lv l c a) (ha : a < 1099511627776) {ox oy : Operand} {K : Value → Value → Value → Value → World → Prop}
    (hk : ∀ x2 x3 x4 x6 w', PW w' lv l c (a + 1) → Mod (fun i => i = c) w w' → w'.heap.size = w.heap.size → K x2 x3 x4 x6 w') :
    VK Tryd.prog (Instr.fieldAt 79 (pq c) 1) w fun x2 w => VK Tryd.prog (Instr.loadAt 3 x2) w fun x3 w => BK Tryd.prog .add 3 ox oy x3 (.int .i64 1) w fun x4 w => VK Tryd.prog (Instr.fieldAt 79 (pq c) 1) w fun x6 w => UK Tryd.prog (Instr.storeAt 3 x6 x4) w fun _ w => K x2 x3 x4 x6 w := by
  have := adv h ha (ox := ox) (oy := oy) (K := fun _ x2 x3 x4 _ x6 w => K x2 x3 x4 x6 w) fun x1 x2 x3 x4 x5 x6 w' => hk x2 x3 x4 x6 w'
  simpa only [NK_ptr] using this
theorem tk_at {l : List Tk} {a : Nat} (h : a < l.length) : l[a]? = some (tkAt l a) := by
  unfold tkAt
  rw [List.getD_eq_getElem?_getD, List.getElem?_eq_getElem h]; rfl
theorem tk_none {l : List Tk} {a : Nat} (h : l.length ≤ a) : tkAt l a = zTk := by
  unfold tkAt
  rw [List.getD_eq_getElem?_getD, List.getElem?_eq_none h]; rfl
theorem QGf' {P : Program} {C : World → Prop} {s : Sem Next} {K : Value → Prop} : QG P C (.bool false) false s K = QK P C s K := by rw [QG_b, if_pos rfl]
theorem next_ok {w : World} {lv : Value} {l : List Tk} {c a : Nat} (h : PW w lv l c a) (hG : Good l) : Rt Tryd.prog 38 #[pq c] w fun v w' => v = .agg (tkAt l a).cells.toArray ∧ Mod none_ w w' := by
  obtain ⟨A, cp, hlv, _⟩ := reads_cap (reads_of_owns h.toks)
  subst hlv
  refine dispatcherref02_cursor_next_calls ?_
  unfold dispatcherref02_cursor_next_F
  refine al_k (cs := zTk.cells.toArray) zTkg rfl _ fun w1 hb1 hm1 hz1 => ?_
  rw [build_ok (cs := zTk.cells.toArray) (by kernel_rfl)]
  refine lcl_k (cs := zTk.cells.toArray) zTkg _ iTk rfl (tk_one _) fun w2 hb2 hm2 hz2 => ?_
  have hb12 := hm2.blk hb1 id
  have hm02 := hm1.trans hm2
  have h2 := h.mod0 hm02
  have hne : w.heap.size ≠ w1.heap.size := by omega
  refine dispatcherref02_cursor_next_R0_quiet (D := []) (fun w' => Mod none_ w2 w') ((Mod.refl _ w2).drawn _) ?_
  unfold dispatcherref02_cursor_next_R0_Q
  show QK _ _ _ _
  refine QC_rt (R := fun w' v w'' => v = .bool true ∧ w'' = w') Tryd.func42 rfl rfl (v := .bool true) (fun w' hw => good_ok (h2.mod0 hw)) (fun w' u w'' hw hu => ⟨hu.1, hu.2 ▸ hw⟩) ?_
  refine QV_of (v := .bool false) (fun _ _ => rfl) ?_
  have c1 : ∀ w', Mod none_ w2 w' → w'.cell? ((⟨c, 0, none⟩ : Addr).add 1) = some (.int .i64 a) := fun w' hw => by rw [add_pl, cell_blk (hw.blk h2.cur id)]; rfl
  have c0 : ∀ w', Mod none_ w2 w' → w'.cell? ((⟨c, 0, none⟩ : Addr).add 0) = some (.slice A l.length cp) := fun w' hw => by rw [add_pl, cell_blk (hw.blk h2.cur id)]; rfl
  rw [QGf']
  refine QM ?_
  rw [QGf']
  refine QN_ptr ?_
  rw [QGf']
  refine Qfo (off := 1) (by kernel_rfl) ?_
  rw [QGf']
  refine Qld uI rfl (v := .int .i64 a) c1 ?_
  rw [QGf']
  refine QM ?_
  rw [QGf']
  refine QN_ptr ?_
  rw [QGf']
  refine Qfo (off := 0) (by kernel_rfl) ?_
  rw [QGf']
  refine Qld uTks rfl (v := .slice A l.length cp) c0 ?_
  rw [QGf']
  refine QI_len uTks _ _ _ _ ?_
  rw [QGf']
  refine Qgeq ?_
  refine QP_of ?_
  intro w3 hm3
  have h3 := h2.mod0 hm3
  have hb13 := hm3.blk hb12 id
  have hb23 := hm3.blk hb2 id
  have hm03 := hm02.trans hm3
  have hs3 := hm3.size
  rw [sq_n, dispatcherref02_cursor_next_R1_eq]
  unfold dispatcherref02_cursor_next_R1_F
  by_cases hlt : a < l.length
  · rw [show decide ((l.length : Int) ≤ (a : Int)) = false by rw [decide_eq_false_iff_not]; omega]
    simp only [sq_n, sq_x, sq_r, bk_n, bk_r, bk_x, rt_r, rt_n, rs_0, rs_t, pk_1, pk_2, up_at, reduceIte, Nat.reduceEqDiff, CondK_bool, MG_u, NG_u, VG_u, UG_u, PG_u, BG_u, CG_u, IG_u, MG_b, NG_b, VG_b, UG_b, PG_b, BG_b, CG_b, IG_b, PK_bool, NK_ptr, not_ok, reduceCtorEq, if_true, if_false, Bool.true_eq_false, Bool.false_eq_true, Bool.not_true, Bool.not_false]
    rw [dispatcherref02_cursor_next_R2_eq]
    unfold dispatcherref02_cursor_next_R2_F
    refine dispatcherref02_cursor_next_R3_held (D := []) (fun w' => Mod none_ w3 w') ((Mod.refl _ w3).drawn _) ?_
    unfold dispatcherref02_cursor_next_R3_H
    have hx := tk_at hlt
    have d0 : ∀ w', Mod none_ w3 w' → w'.cell? ((⟨c, 0, none⟩ : Addr).add 0) = some (.slice A l.length cp) := fun w' hw => c0 w' (hm3.trans hw)
    have d1 : ∀ w', Mod none_ w3 w' → w'.cell? ((⟨c, 0, none⟩ : Addr).add 1) = some (.int .i64 a) := fun w' hw => c1 w' (hm3.trans hw)
    refine HN_ptr ?_
    refine HV_of (fun w' _ => run_fo (off := 0) (by kernel_rfl) _ w') ?_
    refine HV_of (v := .slice A l.length cp) (fun w' hw => run_ld1 uTks rfl (d0 w' hw)) ?_
    refine HN_ptr ?_
    refine HV_of (fun w' _ => run_fo (off := 1) (by kernel_rfl) _ w') ?_
    refine HV_of (v := .int .i64 a) (fun w' hw => run_ld1 uI rfl (d1 w' hw)) ?_
    have hr : ∀ w', Mod none_ w3 w' → reads w' 5 (.slice A l.length cp) l.length (l.flatMap Tk.cells) := fun w' hw => reads_of_owns (h3.mod0 hw).toks
    refine YHixA (sz := 4) uTks cTk Tryd.underlying75 rfl (Mod.refl _ w3) hr hlt fun x => ?_
    rw [show a * (4 + 1) = a * 5 from rfl, fl_drop (k := 5) Tk.cells_len hx]
    refine al_k (cs := zTk.cells.toArray) zTkg rfl _ fun w4 hb4 hm4 hz4 => ?_
    have hm34 : Mod none_ w3 w4 := ((Mod.refl _ w3).drawn _).trans hm4
    refine ⟨hm34, ?_⟩
    have hb14 := hm34.blk hb13 id
    have hb24 := hm34.blk hb23 id
    refine stS (old := zTk.cells.toArray) (cs := (tkAt l a).cells.toArray) rfl rfl iTk rfl (tk_one _) hb4 fun w5 hb5 hm5 hz5 => ?_
    have hs34 : w3.heap.size < w4.heap.size := by rw [hz4]; exact Nat.lt_succ_self _
    have hm35 : Mod none_ w3 w5 := hm34.fresh hm5 (Nat.le_refl _)
    refine ⟨hm35, ?_⟩
    have hm05 := hm03.trans hm35
    have hb15 := hm35.blk hb13 id
    have hb25 := hm35.blk hb23 id
    rw [sq_n, dispatcherref02_cursor_next_R4_eq]
    unfold dispatcherref02_cursor_next_R4_F
    have hgood := hG.all _ (List.mem_of_getElem? hx)
    unfold Tk.good at hgood
    simp only [Bool.and_eq_true, decide_eq_true_eq] at hgood
    obtain ⟨⟨⟨⟨g1, g2⟩, g3⟩, g4⟩, _⟩ := hgood
    obtain ⟨k0, k1, k2, k3, k4⟩ := tk_fo hb5
    simp only [sq_n, sq_x, sq_r, bk_n, bk_r, bk_x, rt_r, rt_n, rs_0, rs_t, pk_1, pk_2, up_at, reduceIte, Nat.reduceEqDiff]
    simp only [↓k1.e]
    refine CK_st Tryd.func36 rfl rfl (OfTx_ok _ w5 (by omega)) ?_
    rintro _ w6 ⟨rfl, hm6⟩
    refine lcl_k (cs := (Tk.mk (tokP (tkAt l a).text).1 (tkAt l a).text (tokP (tkAt l a).text).2 0 0).cells.toArray) zTkg _ iTk rfl (tk_one _) fun w7 hb7 hm7 hz7 => ?_
    have hm57 := hm6.trans hm7
    obtain ⟨r0, r1, r2, r3, r4⟩ := tk_fo hb7
    obtain ⟨k0, k1, k2, k3, k4⟩ := tk_fo (hm57.blk hb5 id)
    simp only [↓VG_u, ↓UG_u, ↓MG_u, ↓NG_u, ↓PG_u, ↓BG_u, ↓CG_u, ↓IG_u, ↓VGtt, ↓VGtf, ↓VGft, ↓VGff, ↓UGtt, ↓UGtf, ↓UGft, ↓UGff, ↓MGtt, ↓MGtf, ↓MGft, ↓MGff, ↓NGtt, ↓NGtf, ↓NGft, ↓NGff, ↓PGtt, ↓PGtf, ↓PGft, ↓PGff, ↓BGtt, ↓BGtf, ↓BGft, ↓BGff, ↓CGtt, ↓CGtf, ↓CGft, ↓CGff, ↓IGtt, ↓IGtf, ↓IGft, ↓IGff, ↓PKt, ↓PKf, ↓CDt, ↓CDf, ↓NOTt, ↓NOTf, ↓NK_ptr, ↓r0.e, ↓k0.e, ↓r2.e, ↓k2.e, ↓NEf g1, ↓NEf g2]
    refine ldS (cs := (tkAt l a).cells.toArray) rfl Tryd.underlying75 rfl iTk (hm57.blk hb5 id) ?_
    refine stS (old := zTk.cells.toArray) (cs := (tkAt l a).cells.toArray) rfl rfl iTk rfl (tk_one _) (hm57.blk hb15 id) fun w8 hb8 hm8 hz8 => ?_
    refine rsCell (R := fun v w' => v = .agg (tkAt l a).cells.toArray ∧ Mod none_ w w') (cs := (tkAt l a).cells.toArray) (b := w.heap.size) rfl Tryd.underlying75 rfl iTk hb8 ⟨rfl, (hm05.trans hm57).fresh hm8 (Nat.le_refl _)⟩
  · rw [show decide ((l.length : Int) ≤ (a : Int)) = true by rw [decide_eq_true_eq]; omega]
    simp only [sq_n, sq_x, sq_r, bk_n, bk_r, bk_x, rt_r, rt_n, rs_0, rs_t, pk_1, pk_2, up_at, reduceIte, Nat.reduceEqDiff, CondK_bool, MG_u, NG_u, VG_u, UG_u, PG_u, BG_u, CG_u, IG_u, MG_b, NG_b, VG_b, UG_b, PG_b, BG_b, CG_b, IG_b, PK_bool, NK_ptr, not_ok, reduceCtorEq, if_true, if_false, Bool.true_eq_false, Bool.false_eq_true, Bool.not_true, Bool.not_false]
    rw [tk_none (by omega)]
    refine ldS (cs := zTk.cells.toArray) rfl Tryd.underlying75 rfl iTk hb23 ?_
    refine stS (old := zTk.cells.toArray) (cs := zTk.cells.toArray) rfl rfl iTk rfl (tk_one _) hb13 fun w8 hb8 hm8 hz8 => ?_
    refine rsCell (R := fun v w' => v = .agg zTk.cells.toArray ∧ Mod none_ w w') (cs := zTk.cells.toArray) (b := w.heap.size) rfl Tryd.underlying75 rfl iTk hb8 ⟨rfl, hm03.fresh hm8 (Nat.le_refl _)⟩
theorem up1 {S : Nat → Prop} {w w' : World} (h : Mod none_ w w') : Mod S w w' := h.mono fun _ _ q => q.elim
theorem kind_lt {l : List Tk} {a : Nat} (h : (tkAt l a).kind ≠ 0) : a < l.length := by
  rcases Nat.lt_or_ge a l.length with q | q
  · exact q
  · rw [tk_none q] at h; exact absurd rfl h
theorem may_ok {w : World} {lv : Value} {l : List Tk} {c a : Nat} (h : PW w lv l c a) (hG : Good l) (s : Bs) : Rt Tryd.prog 37 #[pq c, txt s] w fun v w' => v = .bool (mayP l a s) ∧ PW w' lv l c (if mayP l a s then a + 1 else a) ∧ Mod (fun i => i = c) w w' := by
  refine dispatcherref02_cursor_may_calls ?_
  unfold dispatcherref02_cursor_may_F
  refine CK_st Tryd.func38 rfl rfl (next_ok h hG) ?_
  rintro _ w1 ⟨rfl, hm1⟩
  refine lcl_k (cs := (tkAt l a).cells.toArray) zTkg _ iTk rfl (tk_one _) fun w2 hb2 hm2 hz2 => ?_
  have hm02 := hm1.trans hm2
  have h2 := h.mod0 hm02
  obtain ⟨k0, k1, k2, k3, k4⟩ := tk_fo hb2
  by_cases hk : (tkAt l a).kind = 0
  · have hf : mayP l a s = false := by unfold mayP; rw [hk]; rfl
    simp only [↓VG_u, ↓UG_u, ↓MG_u, ↓NG_u, ↓PG_u, ↓BG_u, ↓CG_u, ↓IG_u, ↓VGtt, ↓VGtf, ↓VGft, ↓VGff, ↓UGtt, ↓UGtf, ↓UGft, ↓UGff, ↓MGtt, ↓MGtf, ↓MGft, ↓MGff, ↓NGtt, ↓NGtf, ↓NGft, ↓NGff, ↓PGtt, ↓PGtf, ↓PGft, ↓PGff, ↓BGtt, ↓BGtf, ↓BGft, ↓BGff, ↓CGtt, ↓CGtf, ↓CGft, ↓CGff, ↓IGtt, ↓IGtf, ↓IGft, ↓IGff, ↓PKt, ↓PKf, ↓CDt, ↓CDf, ↓NOTt, ↓NOTf, ↓NK_ptr, ↓k0.e, ↓EQt hk]
    rw [hf]
    exact ⟨rfl, h2, up1 hm02⟩
  · by_cases ht : (tkAt l a).text = s
    · have hf : mayP l a s = true := by unfold mayP; simp [hk, ht]
      have hlt := kind_lt hk
      have hl := hG.len
      have heq : (⟨(tkAt l a).text.toArray⟩ : ByteArray) = ⟨s.toArray⟩ := by rw [ht]
      simp only [↓VG_u, ↓UG_u, ↓MG_u, ↓NG_u, ↓PG_u, ↓BG_u, ↓CG_u, ↓IG_u, ↓VGtt, ↓VGtf, ↓VGft, ↓VGff, ↓UGtt, ↓UGtf, ↓UGft, ↓UGff, ↓MGtt, ↓MGtf, ↓MGft, ↓MGff, ↓NGtt, ↓NGtf, ↓NGft, ↓NGff, ↓PGtt, ↓PGtf, ↓PGft, ↓PGff, ↓BGtt, ↓BGtf, ↓BGft, ↓BGff, ↓CGtt, ↓CGtf, ↓CGft, ↓CGff, ↓IGtt, ↓IGtf, ↓IGft, ↓IGff, ↓PKt, ↓PKf, ↓CDt, ↓CDf, ↓NOTt, ↓NOTf, ↓NK_ptr, ↓k0.e, ↓EQf hk, ↓k1.e, txt, ↓SNEf heq]
      refine adv2 h2 (by omega) fun x2 x3 x4 x6 w3 h3 hm3 hz3 => ?_
      rw [hf]
      exact ⟨rfl, h3, (up1 hm02).trans hm3⟩
    · have hf : mayP l a s = false := by unfold mayP; simp [hk, ht]
      have hne : (⟨(tkAt l a).text.toArray⟩ : ByteArray) ≠ ⟨s.toArray⟩ := fun q => ht (by simpa using congrArg (fun b => b.data.toList) q)
      simp only [↓VG_u, ↓UG_u, ↓MG_u, ↓NG_u, ↓PG_u, ↓BG_u, ↓CG_u, ↓IG_u, ↓VGtt, ↓VGtf, ↓VGft, ↓VGff, ↓UGtt, ↓UGtf, ↓UGft, ↓UGff, ↓MGtt, ↓MGtf, ↓MGft, ↓MGff, ↓NGtt, ↓NGtf, ↓NGft, ↓NGff, ↓PGtt, ↓PGtf, ↓PGft, ↓PGff, ↓BGtt, ↓BGtf, ↓BGft, ↓BGff, ↓CGtt, ↓CGtf, ↓CGft, ↓CGff, ↓IGtt, ↓IGtf, ↓IGft, ↓IGff, ↓PKt, ↓PKf, ↓CDt, ↓CDf, ↓NOTt, ↓NOTf, ↓NK_ptr, ↓k0.e, ↓EQf hk, ↓k1.e, txt, ↓SNEt hne]
      rw [hf]
      exact ⟨rfl, h2, up1 hm02⟩
theorem need_ok {w : World} {lv : Value} {l : List Tk} {c a : Nat} (h : PW w lv l c a) (hG : Good l) {s : Bs} (hs : mayP l a s = true) : Rt Tryd.prog 41 #[pq c, txt s] w fun v w' => PW w' lv l c (a + 1) ∧ Mod (fun i => i = c) w w' := by
  refine dispatcherref02_cursor_need_calls ?_
  unfold dispatcherref02_cursor_need_F
  refine CK_st Tryd.func37 rfl rfl (may_ok h hG s) ?_
  rintro _ w1 ⟨rfl, h1, hm1⟩
  rw [hs] at h1 ⊢
  simp only [↓VG_u, ↓UG_u, ↓MG_u, ↓NG_u, ↓PG_u, ↓BG_u, ↓CG_u, ↓IG_u, ↓VGtt, ↓VGtf, ↓VGft, ↓VGff, ↓UGtt, ↓UGtf, ↓UGft, ↓UGff, ↓MGtt, ↓MGtf, ↓MGft, ↓MGff, ↓NGtt, ↓NGtf, ↓NGft, ↓NGff, ↓PGtt, ↓PGtf, ↓PGft, ↓PGff, ↓BGtt, ↓BGtf, ↓BGft, ↓BGff, ↓CGtt, ↓CGtf, ↓CGft, ↓CGff, ↓IGtt, ↓IGtf, ↓IGft, ↓IGff, ↓PKt, ↓PKf, ↓CDt, ↓CDf, ↓NOTt, ↓NOTf, ↓NK_ptr]
  exact ⟨h1, hm1⟩
theorem name_ok {w : World} {lv : Value} {l : List Tk} {c a : Nat} (h : PW w lv l c a) (hG : Good l) (hk : (tkAt l a).kind = 1) : Rt Tryd.prog 39 #[pq c] w fun v w' => v = txt (tkAt l a).text ∧ PW w' lv l c (a + 1) ∧ Mod (fun i => i = c) w w' := by
  refine dispatcherref02_cursor_name_calls ?_
  unfold dispatcherref02_cursor_name_F
  refine CK_st Tryd.func38 rfl rfl (next_ok h hG) ?_
  rintro _ w1 ⟨rfl, hm1⟩
  refine lcl_k (cs := (tkAt l a).cells.toArray) zTkg _ iTk rfl (tk_one _) fun w2 hb2 hm2 hz2 => ?_
  have hm02 := hm1.trans hm2
  have h2 := h.mod0 hm02
  obtain ⟨k0, k1, k2, k3, k4⟩ := tk_fo hb2
  have hlt := kind_lt (l := l) (a := a) (by rw [hk]; decide)
  have hl := hG.len
  simp only [↓k0.e, ↓NEf hk, ↓CDf]
  refine adv h2 (by omega) fun x1 x2 x3 x4 x5 x6 w3 h3 hm3 hz3 => ?_
  have hcw : c < w1.heap.size := Nat.lt_of_lt_of_le (blk_lt h.cur) hm1.size
  obtain ⟨k0, k1, k2, k3, k4⟩ := tk_fo (hm3.blk hb2 (by omega))
  simp only [↓k1.e]
  exact ⟨trivial, h3, (up1 hm02).trans hm3⟩
theorem number_ok {w : World} {lv : Value} {l : List Tk} {c a : Nat} (h : PW w lv l c a) (hG : Good l) (hk : (tkAt l a).kind = 2) {most : Int} (h0 : 1 ≤ (tkAt l a).num) (h1 : (tkAt l a).num ≤ most) : Rt Tryd.prog 40 #[pq c, .int .i64 most] w fun v w' => v = .int .i64 (tkAt l a).num ∧ PW w' lv l c (a + 1) ∧ Mod (fun i => i = c) w w' := by
  refine dispatcherref02_cursor_number_calls ?_
  unfold dispatcherref02_cursor_number_F
  refine CK_st Tryd.func38 rfl rfl (next_ok h hG) ?_
  rintro _ w1 ⟨rfl, hm1⟩
  refine lcl_k (cs := (tkAt l a).cells.toArray) zTkg _ iTk rfl (tk_one _) fun w2 hb2 hm2 hz2 => ?_
  have hm02 := hm1.trans hm2
  have h2 := h.mod0 hm02
  obtain ⟨k0, k1, k2, k3, k4⟩ := tk_fo hb2
  have hlt := kind_lt (l := l) (a := a) (by rw [hk]; decide)
  have hl := hG.len
  simp only [↓VG_u, ↓UG_u, ↓MG_u, ↓NG_u, ↓PG_u, ↓BG_u, ↓CG_u, ↓IG_u, ↓VGtt, ↓VGtf, ↓VGft, ↓VGff, ↓UGtt, ↓UGtf, ↓UGft, ↓UGff, ↓MGtt, ↓MGtf, ↓MGft, ↓MGff, ↓NGtt, ↓NGtf, ↓NGft, ↓NGff, ↓PGtt, ↓PGtf, ↓PGft, ↓PGff, ↓BGtt, ↓BGtf, ↓BGft, ↓BGff, ↓CGtt, ↓CGtf, ↓CGft, ↓CGff, ↓IGtt, ↓IGtf, ↓IGft, ↓IGff, ↓PKt, ↓PKf, ↓CDt, ↓CDf, ↓NOTt, ↓NOTf, ↓NK_ptr, ↓k0.e, ↓NEf hk, ↓k2.e, ↓LTf h0, ↓GTf h1]
  refine adv2 h2 (by omega) fun x2 x3 x4 x6 w3 h3 hm3 hz3 => ?_
  have hcw : c < w1.heap.size := Nat.lt_of_lt_of_le (blk_lt h.cur) hm1.size
  obtain ⟨k0, k1, k2, k3, k4⟩ := tk_fo (hm3.blk hb2 (by omega))
  simp only [↓k2.e]
  exact ⟨trivial, h3, (up1 hm02).trans hm3⟩
end Go.Proofs.YtpkfbaagpjdifaaDoor.Tr
set_option linter.unusedVariables false
set_option linter.unusedSimpArgs false
set_option maxRecDepth 4000
namespace Go.Proofs.YtpkfbaagpjdifaaDoor.Tr
open Go Go.X Go.RowKit Go.Proofs.YtpkfbaagpjdifaaDoor.XD Go.Proofs.YtpkfbaagpjdifaaDoor.XK
theorem tk_fine {l : List Tk} (hG : Good l) (a : Nat) : (tkAt l a).text.length ≤ 20000 ∧ (Lit.int .i64 (tkAt l a).num).wf = true ∧ (Lit.int .i64 (tkAt l a).line).wf = true ∧ (Lit.int .i64 (tkAt l a).col).wf = true := by
  by_cases h : a < l.length
  · have hg := hG.all _ (List.mem_of_getElem? (tk_at h))
    unfold Tk.good at hg
    simp only [Bool.and_eq_true, decide_eq_true_eq] at hg
    exact ⟨hg.1.1.2, hg.2.1.1, hg.2.1.2, hg.2.2⟩
  · rw [tk_none (by omega)]
    exact ⟨by decide, by decide, by decide, by decide⟩
theorem two_wf (b : Bs) : (Lit.int .u8 (twoP b).1).wf = true := by
  have : ∀ l : List (Bs × Int × Nat), (∀ x ∈ l, (Lit.int .u8 x.2.1).wf = true) → (Lit.int .u8 (findT l b).1).wf = true := by
    intro l
    induction l with
    | nil => intro _; rfl
    | cons x r ih =>
      intro h
      obtain ⟨t, o, s⟩ := x
      rw [findT]
      split
      · exact h _ (List.mem_cons_self ..)
      · exact ih fun y hy => h y (List.mem_cons_of_mem _ hy)
  exact this twoL (by decide)
theorem bs_size {b : Bs} (h : b.length ≤ 20000) : (bs b).size ≤ maxLen := by unfold bs maxLen; simp [ByteArray.size]; omega
theorem bEx2 (a b : Int) : Tryd.prog.built 29 [(4, .int .i64 a), (5, .int .i64 b)] = some (Ex.mk 0 0 (bs []) nl [] a b).cells.toArray := by kernel_rfl
theorem bEx3 (o a b : Int) : Tryd.prog.built 29 [(0, .int .u8 o), (4, .int .i64 a), (5, .int .i64 b)] = some (Ex.mk o 0 (bs []) nl [] a b).cells.toArray := by kernel_rfl
theorem ex_cells_one {e : Ex} (h : e.s.oneCell' = true) : (e.cells.toArray.all (·.oneCell')) = true := by
  simp only [Ex.cells, List.all_toArray, List.all_cons, List.all_nil, h]
  rfl
theorem own_one {w : World} {e : Ex} (h : e.Own w tE) : (e.cells.toArray.all (·.oneCell')) = true := ex_one h.ok
theorem atom_own {w : World} {e : Ex} (hs : e.s = nl) (ha : e.args = []) (hf : e.fine) : e.Own w tE ∧ ∀ S, e.In S := by
  refine ⟨Ex.own_.2 ?_, fun S => Ex.in_.2 ?_⟩
  · rw [hs, ha]; exact ⟨owns_none _ _ _ _, hf, by simp⟩
  · rw [hs, ha]; exact ⟨fun k hk => by simp [nl, Value.ownBlock] at hk, by simp⟩
structure Got (w w' : World) (e : Ex) (pe : Ex) : Prop where
  er : e.er = pe
  own : e.Own w' tE
  in_ : e.In fun i => w.heap.size ≤ i
theorem Got.mod {w w1 w2 : World} {e pe : Ex} (h : Got w w1 e pe) {S : Nat → Prop} (hm : Mod S w1 w2) (hS : ∀ k, S k → k < w.heap.size) : Got w w2 e pe :=
  ⟨h.er, h.own.mod hm (h.in_.mono fun k hk q => by have := hS k q; omega), h.in_⟩
theorem Got.mod0 {w w1 w2 : World} {e pe : Ex} (h : Got w w1 e pe) (hm : Mod none_ w1 w2) : Got w w2 e pe := ⟨h.er, h.own.mod0 hm, h.in_⟩
theorem Got.low {w w0 w1 : World} {e pe : Ex} (h : Got w w1 e pe) (hs : w0.heap.size ≤ w.heap.size) : Got w0 w1 e pe := ⟨h.er, h.own, h.in_.mono fun k hk => by omega⟩
theorem Got.at {w w1 w2 : World} {e pe : Ex} (h : Got w w1 e pe) {b : Nat} (hm : Mod (fun i => i = b) w1 w2) (hb : b < w.heap.size) : Got w w2 e pe := h.mod hm fun k q => by omega
theorem one_ok {w : World} {e p : Ex} {op : Int} (hs : e.s = nl) (hf : e.fine) (ho : (Lit.int .u8 op).wf = true) (hp : p.Own w tE) : Rt Tryd.prog 94 #[.agg e.cells.toArray, .int .u8 op, .agg p.cells.toArray] w
    fun v w' => ∃ s', v = .agg (Ex.mk op e.num e.name s' [p] e.line e.col).cells.toArray ∧ (Ex.mk op e.num e.name s' [p] e.line e.col).Own w' tE ∧ (∀ k, s'.ownBlock = some k → w.heap.size ≤ k) ∧ Mod none_ w w' := by
  refine dispatcherref02_one_calls ?_
  unfold dispatcherref02_one_F
  refine box_k (cs := e.cells.toArray) rfl fun w1 hb1 hm1 hz1 => ?_
  refine box_k (cs := p.cells.toArray) rfl fun w2 hb2 hm2 hz2 => ?_
  refine al_k (cs := zExc.toArray) zEx rfl _ fun w3 hb3 hm3 hz3 => ?_
  have hb13 := hm3.blk (hm2.blk hb1 id) id
  have hb23 := hm3.blk hb2 id
  have hm03 := (hm1.trans hm2).trans hm3
  refine fst_k (off := 0) (by kernel_rfl) (by kernel_rfl) rfl hb13 (by simp [Ex.cells]) (cs' := (Ex.mk op e.num e.name nl [] e.line e.col).cells.toArray) (by rw [← hs]; rfl) fun x w4 h4 hm4 hz4 => ?_
  have hb24 := hm4.blk hb23 (by omega)
  have hb34 := hm4.blk hb3 (by omega)
  have hm04 := hm03.fresh hm4 (Nat.le_refl _)
  obtain ⟨f0, f1, f2, f3, f4, f5⟩ := ex_fo h4
  simp only [↓f3.e]
  refine ldS (cs := p.cells.toArray) rfl Tryd.underlying29 rfl iEx hb24 ?_
  refine snocEx (ExsOwn.nil w4 0) (hp.mod0 hm04) ((hp.mod0 hm04).lt.mono fun k hk => ⟨Nat.zero_le _, by simp [nl, Value.ownBlock]⟩) (by simp) (Nat.zero_le _) fun y v5 w5 hO5 hm5 hg5 => ?_
  have hm5' : Mod none_ w4 w5 := hm5.mono fun k _ q => by simp [nl, Value.ownBlock] at q
  have hm05 := hm04.trans hm5'
  refine fst_k (off := 3) (by kernel_rfl) (by kernel_rfl) (owns_slice hO5.row) (hm5'.blk h4 id) (by simp [Ex.cells]) (cs' := (Ex.mk op e.num e.name v5 [p] e.line e.col).cells.toArray) rfl fun x w6 h6 hm6 hz6 => ?_
  have hlow : ∀ k, v5.ownBlock = some k → w4.heap.size ≤ k := by
    intro k hk
    rcases hg5 with q | ⟨g, q, hg⟩
    · rw [q] at hk; simp [nl, Value.ownBlock] at hk
    · rw [q] at hk; cases hk; exact hg
  have hs4 : w.heap.size < w4.heap.size := by omega
  have hown : (Ex.mk op e.num e.name v5 [p] e.line e.col).Own w5 tE := by
    refine Ex.own_.2 ⟨hO5.row, ?_, hO5.own⟩
    exact ⟨ho, hf.2⟩
  have hmem := hO5.own p (by simp)
  have hrow6 : w6.ownsRow 0 tE 6 v5 1 ([p].flatMap Ex.cells) := owns_mod hO5.row hm6 fun k hk q => by have := hlow k hk; omega
  have hp6 : p.Own w6 tE := hmem.mod hm6 (hp.lt.mono fun k hk q => by omega)
  refine ldS (cs := (Ex.mk op e.num e.name v5 [p] e.line e.col).cells.toArray) rfl Tryd.underlying29 rfl iEx h6 ?_
  refine stS (old := zExc.toArray) (cs := (Ex.mk op e.num e.name v5 [p] e.line e.col).cells.toArray) rfl rfl iEx rfl (own_one hown) (hm6.blk (hm5'.blk hb34 id) (by omega)) fun w7 h7 hm7 hz7 => ?_
  have hs5 := hm5'.size
  refine rsCell (R := fun v w' => ∃ s', v = .agg (Ex.mk op e.num e.name s' [p] e.line e.col).cells.toArray ∧ (Ex.mk op e.num e.name s' [p] e.line e.col).Own w' tE ∧ (∀ k, s'.ownBlock = some k → w.heap.size ≤ k) ∧ Mod none_ w w') (cs := (Ex.mk op e.num e.name v5 [p] e.line e.col).cells.toArray) rfl Tryd.underlying29 rfl iEx h7 ⟨v5, rfl, ?_, fun k hk => by have := hlow k hk; omega, (hm05.fresh hm6 (Nat.le_refl _)).fresh hm7 (by omega)⟩
  refine Ex.own_.2 ⟨owns_mod hrow6 hm7 fun k hk q => by have := hlow k hk; omega, ⟨ho, hf.2⟩, fun a ha => ?_⟩
  rw [List.mem_singleton.1 ha]
  exact hp6.mod hm7 (hp.lt.mono fun k hk q => by omega)
end Go.Proofs.YtpkfbaagpjdifaaDoor.Tr
set_option linter.unusedVariables false
set_option linter.unusedSimpArgs false
set_option maxRecDepth 4000
namespace Go.Proofs.YtpkfbaagpjdifaaDoor.Tr
open Go Go.X Go.RowKit Go.Proofs.YtpkfbaagpjdifaaDoor.XD Go.Proofs.YtpkfbaagpjdifaaDoor.XK
section
variable {lv : Value} {l : List Tk} {c : Nat}
def ExprC (lv : Value) (l : List Tk) (c n : Nat) : Prop := ∀ (k a : Nat) (r : Ex × Nat), exprTk l n k a = some r → k ≤ 5 → ∀ w, PW w lv l c a →
  Rt Tryd.prog 68 #[pq c, .int .i64 (k : Int)] w fun v w' => ∃ e, v = .agg e.cells.toArray ∧ Got w w' e r.1 ∧ PW w' lv l c r.2 ∧ Mod (fun i => i = c) w w'
def SingleC (lv : Value) (l : List Tk) (c n : Nat) : Prop := ∀ (a : Nat) (r : Ex × Nat), singleP l n a = some r → ∀ w, PW w lv l c a →
  Rt Tryd.prog 82 #[pq c] w fun v w' => ∃ e, v = .agg e.cells.toArray ∧ Got w w' e r.1 ∧ PW w' lv l c r.2 ∧ Mod (fun i => i = c) w w'
structure Fr (lv : Value) (l : List Tk) (c : Nat) (w0 w : World) (b2 b3 b4 : Nat) (t : Tk) (e : Ex) (a : Nat) : Prop where
  h2 : w.heap[b2]? = some (.cells zExc.toArray tE (0, 0))
  h3 : w.heap[b3]? = some (.cells t.cells.toArray tT (0, 0))
  h4 : w.heap[b4]? = some (.cells e.cells.toArray tE (0, 0))
  pw : PW w lv l c a
  m : Mod (fun i => i = c) w0 w
  lo : w0.heap.size ≤ b2 ∧ b2 < b3 ∧ b3 < b4 ∧ c < w0.heap.size ∧ ∀ g, lv.ownBlock = some g → g < w0.heap.size
variable {w0 w w' : World} {b2 b3 b4 : Nat} {t : Tk} {e : Ex} {a : Nat}
theorem Fr.cur (h : Fr lv l c w0 w b2 b3 b4 t e a) {a' : Nat} (hm : Mod (fun i => i = c) w w') (hp : PW w' lv l c a') : Fr lv l c w0 w' b2 b3 b4 t e a' := by
  have := h.lo
  exact ⟨hm.blk h.h2 (by omega), hm.blk h.h3 (by omega), hm.blk h.h4 (by omega), hp, h.m.trans hm, h.lo⟩
theorem Fr.mod0 (h : Fr lv l c w0 w b2 b3 b4 t e a) (hm : Mod none_ w w') : Fr lv l c w0 w' b2 b3 b4 t e a := h.cur (up1 hm) (h.pw.mod0 hm)
theorem Fr.put (h : Fr lv l c w0 w b2 b3 b4 t e a) {e' : Ex} (hm : Mod (fun i => i = b4) w w') (hb : w'.heap[b4]? = some (.cells e'.cells.toArray tE (0, 0))) : Fr lv l c w0 w' b2 b3 b4 t e' a := by
  have := h.lo
  refine ⟨hm.blk h.h2 (by omega), hm.blk h.h3 (by omega), hb, h.pw.off hm fun k q => ?_, h.m.then hm fun i hi q => by omega, h.lo⟩
  refine ⟨by omega, fun g hg => ?_⟩
  have := h.lo.2.2.2.2 g hg
  omega
theorem Fr.ltw (h : Fr lv l c w0 w b2 b3 b4 t e a) : b4 < w.heap.size := blk_lt h.h4
theorem Fr.ret (h : Fr lv l c w0 w b2 b3 b4 t e a) {pe : Ex} (hg : Got w0 w e pe) (hi : e.In fun k => b2 ≠ k) {R : Value → World → Prop} (hR : ∀ w', Got w0 w' e pe → PW w' lv l c a → Mod (fun i => i = c) w0 w' → R (.agg e.cells.toArray) w') :
    VK Tryd.prog (Instr.loadAt 29 (pq b4)) w fun x w => UK Tryd.prog (Instr.storeAt 29 (pq b2) x) w fun _ w => ∃ v, (do loadVar 29 (← asAddr (pq b2)) : Sem Value).run Tryd.prog w = .ok v w ∧ R v w := by
  have := h.lo
  refine ldS (cs := e.cells.toArray) rfl Tryd.underlying29 rfl iEx h.h4 ?_
  refine stS (old := zExc.toArray) (cs := e.cells.toArray) rfl rfl iEx rfl (own_one hg.own) h.h2 fun w1 h1 hm1 hz1 => ?_
  refine rsCell (R := R) (cs := e.cells.toArray) rfl Tryd.underlying29 rfl iEx h1 (hR _ ⟨hg.er, hg.own.mod hm1 (hi.mono fun k hk q => hk q.symm), hg.in_⟩ (h.pw.off hm1 fun k q => ?_) (h.m.then hm1 fun i hi q => by omega))
  refine ⟨by omega, fun g hg => ?_⟩
  have := h.lo.2.2.2.2 g hg
  omega
theorem fine_mk {op num line col : Int} {name : ByteArray} {s : Value} {es : List Ex} (h1 : (Lit.int .u8 op).wf = true) (h2 : (Lit.int .i64 num).wf = true) (h3 : name.size ≤ maxLen) (h4 : (Lit.int .i64 line).wf = true) (h5 : (Lit.int .i64 col).wf = true) : (Ex.mk op num name s es line col).fine := ⟨h1, h2, h3, h4, h5⟩
theorem Fr.retS (h : Fr lv l c w0 w b2 b3 b4 t e a) {pe : Ex} (hg : Got w0 w e pe) (hi : e.In fun k => b2 ≠ k) {R : Value → World → Prop} {ρ : Value → Sl} (hq : ∀ x, ρ x 2 = pq b2) (hR : ∀ w', Got w0 w' e pe → PW w' lv l c a → Mod (fun i => i = c) w0 w' → R (.agg e.cells.toArray) w') :
    VK Tryd.prog (Instr.loadAt 29 (pq b4)) w fun x w => UK Tryd.prog (Instr.storeAt 29 (pq b2) x) w fun _ w => resK Tryd.prog (ρ x) (fun vs w => R (packV vs) w) [ResultVar.cell 2 29] w := by
  have := h.ret hg hi hR
  refine ldS (cs := e.cells.toArray) rfl Tryd.underlying29 rfl iEx h.h4 ?_
  have lo := h.lo
  refine stS (old := zExc.toArray) (cs := e.cells.toArray) rfl rfl iEx rfl (own_one hg.own) h.h2 fun w1 h1 hm1 hz1 => ?_
  have hR1 := hR w1 ⟨hg.er, hg.own.mod hm1 (hi.mono fun k hk q => hk q.symm), hg.in_⟩ (h.pw.off hm1 fun k q => ⟨by omega, fun g hg => by have := lo.2.2.2.2 g hg; omega⟩) (h.m.then hm1 fun i hi q => by omega)
  exact rsCell (R := fun v w => R v w) (cs := e.cells.toArray) (hq _) Tryd.underlying29 rfl iEx h1 hR1
theorem need_some {a a' : Nat} {s : Bs} (h : needP l a s = some a') : mayP l a s = true ∧ a' = a + 1 := by
  unfold needP at h
  split at h
  · rename_i q; cases h; exact ⟨q, rfl⟩
  · cases h
theorem single_step (hG : Good l) {n : Nat} (hE : ExprC lv l c n) : SingleC lv l c (n + 1) := by
  intro a r hr w hw
  refine dispatcherref02_cursor_single_calls ?_
  unfold dispatcherref02_cursor_single_F
  refine al_k (cs := zExc.toArray) zEx rfl _ fun w1 hb1 hm1 hz1 => ?_
  refine CK_st Tryd.func38 rfl rfl (next_ok (hw.mod0 hm1) hG) ?_
  rintro _ w2 ⟨rfl, hm2⟩
  refine lcl_k (cs := (tkAt l a).cells.toArray) zTkg _ iTk rfl (tk_one _) fun w3 hb3 hm3 hz3 => ?_
  obtain ⟨k0, k1, k2, k3, k4⟩ := tk_fo hb3
  simp only [↓k3.e, ↓k4.e]
  rw [build_ok (bEx2 _ _)]
  refine lcl_k (cs := (Ex.mk 0 0 (bs []) nl [] (tkAt l a).line (tkAt l a).col).cells.toArray) zEx _ iEx rfl (ex_cells_one rfl) fun w4 hb4 hm4 hz4 => ?_
  have hs2 := hm2.size
  have hm14 := (hm2.trans hm3).trans hm4
  have hm04 := hm1.trans hm14
  have hF : Fr lv l c w w4 w.heap.size w2.heap.size w3.heap.size (tkAt l a) (Ex.mk 0 0 (bs []) nl [] (tkAt l a).line (tkAt l a).col) a :=
    ⟨hm14.blk hb1 id, hm4.blk hb3 id, hb4, hw.mod0 hm04, up1 hm04, Nat.le_refl _, by omega, by omega, blk_lt hw.cur, fun g hg => owns_lt hw.toks hg⟩
  generalize w3.heap.size = b4 at *
  generalize w2.heap.size = b3 at *
  obtain ⟨tf1, tf2, tf3, tf4⟩ := tk_fine hG a
  have hwl := hG.len
  refine CK_st Tryd.func42 rfl rfl (good_ok hF.pw) ?_
  rintro _ w5 ⟨rfl, rfl⟩
  obtain ⟨k0, k1, k2, k3, k4⟩ := tk_fo hF.h3
  rw [singleP] at hr
  by_cases hk0 : (tkAt l a).kind = 0
  · rw [if_pos hk0] at hr; cases hr
  rw [if_neg hk0] at hr
  have hal := kind_lt hk0
  by_cases hk2 : (tkAt l a).kind = 2
  · rw [if_pos hk2] at hr
    cases hr
    simp only [↓VG_u, ↓UG_u, ↓MG_u, ↓NG_u, ↓PG_u, ↓BG_u, ↓CG_u, ↓IG_u, ↓VGtt, ↓VGtf, ↓VGft, ↓VGff, ↓UGtt, ↓UGtf, ↓UGft, ↓UGff, ↓MGtt, ↓MGtf, ↓MGft, ↓MGff, ↓NGtt, ↓NGtf, ↓NGft, ↓NGff, ↓PGtt, ↓PGtf, ↓PGft, ↓PGff, ↓BGtt, ↓BGtf, ↓BGft, ↓BGff, ↓CGtt, ↓CGtf, ↓CGft, ↓CGff, ↓IGtt, ↓IGtf, ↓IGft, ↓IGff, ↓PKt, ↓PKf, ↓CDt, ↓CDf, ↓NOTt, ↓NOTf, ↓NK_ptr, ↓k0.e, ↓EQf hk0, ↓EQt hk2]
    refine adv2 hF.pw (by omega) fun x2 x3 x4 x6 w5 h5 hm5 hz5 => ?_
    have hF5 := hF.cur hm5 h5
    refine fst_k (off := 0) (by kernel_rfl) (by kernel_rfl) rfl hF5.h4 (by simp [Ex.cells]) (cs' := (Ex.mk 1 0 (bs []) nl [] (tkAt l a).line (tkAt l a).col).cells.toArray) rfl fun x w6 h6 hm6 hz6 => ?_
    have hF6 := hF5.put (e' := ⟨1, 0, bs [], nl, [], _, _⟩) hm6 h6
    obtain ⟨k0, k1, k2, k3, k4⟩ := tk_fo hF6.h3
    simp only [↓k2.e]
    refine fst_k (off := 1) (by kernel_rfl) (by kernel_rfl) rfl hF6.h4 (by simp [Ex.cells]) (cs' := (Ex.mk 1 (tkAt l a).num (bs []) nl [] (tkAt l a).line (tkAt l a).col).cells.toArray) rfl fun x w7 h7 hm7 hz7 => ?_
    have hF7 := hF6.put (e' := ⟨1, (tkAt l a).num, bs [], nl, [], _, _⟩) hm7 h7
    obtain ⟨ho, hi⟩ := atom_own (w := w7) (e := ⟨1, (tkAt l a).num, bs [], nl, [], (tkAt l a).line, (tkAt l a).col⟩) rfl rfl (fine_mk (by decide) tf2 (by decide) tf3 tf4)
    exact hF7.ret ⟨by rw [Ex.er_eq]; rfl, ho, hi _⟩ (hi _) fun w' hg hp hm => ⟨_, rfl, hg, hp, hm⟩
  rw [if_neg hk2] at hr
  by_cases hk1 : (tkAt l a).kind = 1
  · rw [if_pos hk1] at hr
    split at hr
    · cases hr
    · rename_i hmay
      cases hr
      have hmay : mayP l (a + 1) [91] = false := by simpa using hmay
      simp only [↓VG_u, ↓UG_u, ↓MG_u, ↓NG_u, ↓PG_u, ↓BG_u, ↓CG_u, ↓IG_u, ↓VGtt, ↓VGtf, ↓VGft, ↓VGff, ↓UGtt, ↓UGtf, ↓UGft, ↓UGff, ↓MGtt, ↓MGtf, ↓MGft, ↓MGff, ↓NGtt, ↓NGtf, ↓NGft, ↓NGff, ↓PGtt, ↓PGtf, ↓PGft, ↓PGff, ↓BGtt, ↓BGtf, ↓BGft, ↓BGff, ↓CGtt, ↓CGtf, ↓CGft, ↓CGff, ↓IGtt, ↓IGtf, ↓IGft, ↓IGff, ↓PKt, ↓PKf, ↓CDt, ↓CDf, ↓NOTt, ↓NOTf, ↓NK_ptr, ↓k0.e, ↓EQf hk0, ↓EQf hk2, ↓EQt hk1]
      refine adv2 hF.pw (by omega) fun x2 x3 x4 x6 w5 h5 hm5 hz5 => ?_
      have hF5 := hF.cur hm5 h5
      obtain ⟨k0, k1, k2, k3, k4⟩ := tk_fo hF5.h3
      simp only [↓k1.e]
      refine fst_k (off := 2) (by kernel_rfl) (by kernel_rfl) rfl hF5.h4 (by simp [Ex.cells]) (cs' := (Ex.mk 0 0 (bs (tkAt l a).text) nl [] (tkAt l a).line (tkAt l a).col).cells.toArray) rfl fun x w6 h6 hm6 hz6 => ?_
      have hF6 := hF5.put (e' := ⟨0, 0, bs (tkAt l a).text, nl, [], _, _⟩) hm6 h6
      refine CK_st Tryd.func37 rfl rfl (may_ok hF6.pw hG [91]) ?_
      rintro _ w7 ⟨rfl, h7, hm7⟩
      rw [hmay] at h7 ⊢
      have hF7 := hF6.cur hm7 h7
      simp only [↓VG_u, ↓UG_u, ↓MG_u, ↓NG_u, ↓PG_u, ↓BG_u, ↓CG_u, ↓IG_u, ↓VGtt, ↓VGtf, ↓VGft, ↓VGff, ↓UGtt, ↓UGtf, ↓UGft, ↓UGff, ↓MGtt, ↓MGtf, ↓MGft, ↓MGff, ↓NGtt, ↓NGtf, ↓NGft, ↓NGff, ↓PGtt, ↓PGtf, ↓PGft, ↓PGff, ↓BGtt, ↓BGtf, ↓BGft, ↓BGff, ↓CGtt, ↓CGtf, ↓CGft, ↓CGff, ↓IGtt, ↓IGtf, ↓IGft, ↓IGff, ↓PKt, ↓PKf, ↓CDt, ↓CDf, ↓NOTt, ↓NOTf, ↓NK_ptr]
      refine fst_k (off := 0) (by kernel_rfl) (by kernel_rfl) rfl hF7.h4 (by simp [Ex.cells]) (cs' := (Ex.mk 2 0 (bs (tkAt l a).text) nl [] (tkAt l a).line (tkAt l a).col).cells.toArray) rfl fun x w8 h8 hm8 hz8 => ?_
      have hF8 := hF7.put (e' := ⟨2, 0, bs (tkAt l a).text, nl, [], _, _⟩) hm8 h8
      obtain ⟨ho, hi⟩ := atom_own (w := w8) (e := ⟨2, 0, bs (tkAt l a).text, nl, [], (tkAt l a).line, (tkAt l a).col⟩) rfl rfl (fine_mk (by decide) (by decide) (bs_size tf1) tf3 tf4)
      exact hF8.ret ⟨by rw [Ex.er_eq]; rfl, ho, hi _⟩ (hi _) fun w' hg hp hm => ⟨_, rfl, hg, hp, hm⟩
  rw [if_neg hk1] at hr
  simp only [↓VG_u, ↓UG_u, ↓MG_u, ↓NG_u, ↓PG_u, ↓BG_u, ↓CG_u, ↓IG_u, ↓VGtt, ↓VGtf, ↓VGft, ↓VGff, ↓UGtt, ↓UGtf, ↓UGft, ↓UGff, ↓MGtt, ↓MGtf, ↓MGft, ↓MGff, ↓NGtt, ↓NGtf, ↓NGft, ↓NGff, ↓PGtt, ↓PGtf, ↓PGft, ↓PGff, ↓BGtt, ↓BGtf, ↓BGft, ↓BGff, ↓CGtt, ↓CGtf, ↓CGft, ↓CGff, ↓IGtt, ↓IGtf, ↓IGft, ↓IGff, ↓PKt, ↓PKf, ↓CDt, ↓CDf, ↓NOTt, ↓NOTf, ↓NK_ptr, ↓k0.e, ↓EQf hk0, ↓EQf hk2, ↓EQf hk1, ↓k1.e]
  refine CK_st Tryd.func95 rfl rfl (PlainR_ok (bs (tkAt l a).text) _) ?_
  rintro _ w5 ⟨rfl, rfl⟩
  cases hpl : plainP (bs (tkAt l a).text) with
  | true =>
    rw [if_pos hpl] at hr
    cases hr
    simp only [↓VG_u, ↓UG_u, ↓MG_u, ↓NG_u, ↓PG_u, ↓BG_u, ↓CG_u, ↓IG_u, ↓VGtt, ↓VGtf, ↓VGft, ↓VGff, ↓UGtt, ↓UGtf, ↓UGft, ↓UGff, ↓MGtt, ↓MGtf, ↓MGft, ↓MGff, ↓NGtt, ↓NGtf, ↓NGft, ↓NGff, ↓PGtt, ↓PGtf, ↓PGft, ↓PGff, ↓BGtt, ↓BGtf, ↓BGft, ↓BGff, ↓CGtt, ↓CGtf, ↓CGft, ↓CGff, ↓IGtt, ↓IGtf, ↓IGft, ↓IGff, ↓PKt, ↓PKf, ↓CDt, ↓CDf, ↓NOTt, ↓NOTf, ↓NK_ptr]
    refine adv2 hF.pw (by omega) fun x2 x3 x4 x6 w5 h5 hm5 hz5 => ?_
    have hF5 := hF.cur hm5 h5
    refine fst_k (off := 0) (by kernel_rfl) (by kernel_rfl) rfl hF5.h4 (by simp [Ex.cells]) (cs' := (Ex.mk 5 0 (bs []) nl [] (tkAt l a).line (tkAt l a).col).cells.toArray) rfl fun x w6 h6 hm6 hz6 => ?_
    have hF6 := hF5.put (e' := ⟨5, 0, bs [], nl, [], _, _⟩) hm6 h6
    obtain ⟨k0, k1, k2, k3, k4⟩ := tk_fo hF6.h3
    simp only [↓k1.e]
    refine fst_k (off := 2) (by kernel_rfl) (by kernel_rfl) rfl hF6.h4 (by simp [Ex.cells]) (cs' := (Ex.mk 5 0 (bs (tkAt l a).text) nl [] (tkAt l a).line (tkAt l a).col).cells.toArray) rfl fun x w7 h7 hm7 hz7 => ?_
    have hF7 := hF6.put (e' := ⟨5, 0, bs (tkAt l a).text, nl, [], _, _⟩) hm7 h7
    obtain ⟨ho, hi⟩ := atom_own (w := w7) (e := ⟨5, 0, bs (tkAt l a).text, nl, [], (tkAt l a).line, (tkAt l a).col⟩) rfl rfl (fine_mk (by decide) (by decide) (bs_size tf1) tf3 tf4)
    exact hF7.ret ⟨by rw [Ex.er_eq]; rfl, ho, hi _⟩ (hi _) fun w' hg hp hm => ⟨_, rfl, hg, hp, hm⟩
  | false =>
    rw [if_neg (by rw [hpl]; simp)] at hr
    simp only [↓VG_u, ↓UG_u, ↓MG_u, ↓NG_u, ↓PG_u, ↓BG_u, ↓CG_u, ↓IG_u, ↓VGtt, ↓VGtf, ↓VGft, ↓VGff, ↓UGtt, ↓UGtf, ↓UGft, ↓UGff, ↓MGtt, ↓MGtf, ↓MGft, ↓MGff, ↓NGtt, ↓NGtf, ↓NGft, ↓NGff, ↓PGtt, ↓PGtf, ↓PGft, ↓PGff, ↓BGtt, ↓BGtf, ↓BGft, ↓BGff, ↓CGtt, ↓CGtf, ↓CGft, ↓CGff, ↓IGtt, ↓IGtf, ↓IGft, ↓IGff, ↓PKt, ↓PKf, ↓CDt, ↓CDf, ↓NOTt, ↓NOTf, ↓NK_ptr]
    refine CK_st Tryd.func37 rfl rfl (may_ok hF.pw hG [114, 111, 119]) ?_
    rintro _ w5 ⟨rfl, h5, hm5⟩
    have hF5 := hF.cur hm5 h5
    cases hrow : mayP l a [114, 111, 119] with
    | true =>
      rw [hrow] at hF5 hr
      simp only [↓VG_u, ↓UG_u, ↓MG_u, ↓NG_u, ↓PG_u, ↓BG_u, ↓CG_u, ↓IG_u, ↓VGtt, ↓VGtf, ↓VGft, ↓VGff, ↓UGtt, ↓UGtf, ↓UGft, ↓UGff, ↓MGtt, ↓MGtf, ↓MGft, ↓MGff, ↓NGtt, ↓NGtf, ↓NGft, ↓NGff, ↓PGtt, ↓PGtf, ↓PGft, ↓PGff, ↓BGtt, ↓BGtf, ↓BGft, ↓BGff, ↓CGtt, ↓CGtf, ↓CGft, ↓CGff, ↓IGtt, ↓IGtf, ↓IGft, ↓IGff, ↓PKt, ↓PKf, ↓CDt, ↓CDf, ↓NOTt, ↓NOTf, ↓NK_ptr]
      simp only [if_true] at hr hF5
      rw [hrow] at h5
      cases hn1 : needP l (a + 1) [91] with
      | none => rw [hn1] at hr; cases hr
      | some a2 =>
        rw [hn1] at hr
        dsimp only at hr
        obtain ⟨hm1, rfl⟩ := need_some hn1
        cases he : exprTk l n 0 (a + 1 + 1) with
        | none => rw [he] at hr; cases hr
        | some q =>
          obtain ⟨e0, a3⟩ := q
          rw [he] at hr
          dsimp only at hr
          cases hn2 : needP l a3 [93] with
          | none => rw [hn2] at hr; cases hr
          | some a4 =>
            rw [hn2] at hr
            obtain ⟨hm2, rfl⟩ := need_some hn2
            cases hr
            refine CK_st Tryd.func41 rfl rfl (need_ok hF5.pw hG hm1) ?_
            rintro _ w6 ⟨h6, hm6⟩
            have hF6 := hF5.cur hm6 h6
            have lo := hF6.lo
            have fin : ∀ (ρ : Sl) (w9 : World) (e' : Ex), ρ 0 = pq c → ρ 4 = pq b4 → ρ 2 = pq w.heap.size → Fr lv l c w w9 w.heap.size b3 b4 (tkAt l a) e' a3 → Got w w9 e' ⟨4, 0, bs [], nl, [e0], (tkAt l a).line, (tkAt l a).col⟩ → (e'.In fun k => w.heap.size ≠ k) →
                sx fn_ Tryd.prog 118 dispatcherref02_cursor_single_R4 (blkK 0 (seqK (sx fn_ Tryd.prog 118 dispatcherref02_cursor_single_R2 (retK Tryd.prog [ResultVar.cell 2 29] fun v w' => ∃ e, v = .agg e.cells.toArray ∧ Got w w' e ⟨4, 0, bs [], nl, [e0], (tkAt l a).line, (tkAt l a).col⟩ ∧ PW w' lv l c (a3 + 1) ∧ Mod (fun i => i = c) w w')) (retK Tryd.prog [ResultVar.cell 2 29] fun v w' => ∃ e, v = .agg e.cells.toArray ∧ Got w w' e ⟨4, 0, bs [], nl, [e0], (tkAt l a).line, (tkAt l a).col⟩ ∧ PW w' lv l c (a3 + 1) ∧ Mod (fun i => i = c) w w'))) ρ w9 := by
              intro ρ w9 e' q0 q4 q2 hF9 hg hi
              rw [dispatcherref02_cursor_single_R4_eq]
              unfold dispatcherref02_cursor_single_R4_F
              rw [q0, q4, q2]
              refine CK_st Tryd.func41 rfl rfl (need_ok hF9.pw hG hm2) ?_
              rintro _ w10 ⟨h10, hm10⟩
              have hF10 := hF9.cur hm10 h10
              simp only [sq_n, sq_x, sq_r, bk_n, bk_r, bk_x, rt_r, rt_n, rs_0, rs_t, pk_1, pk_2, up_at, reduceIte, Nat.reduceEqDiff, q2]
              refine hF10.retS (hg.at hm10 lo.2.2.2.1) hi (R := fun v w' => ∃ e, v = .agg e.cells.toArray ∧ Got w w' e ⟨4, 0, bs [], nl, [e0], (tkAt l a).line, (tkAt l a).col⟩ ∧ PW w' lv l c (a3 + 1) ∧ Mod (fun i => i = c) w w') (fun x => ?_) fun w' hg hp hm => ⟨_, rfl, hg, hp, hm⟩
              exact q2
            refine dispatcherref02_cursor_single_R3_held (D := []) (fun _ => True) trivial ?_
            unfold dispatcherref02_cursor_single_R3_H
            simp only [sq_n, sq_x, sq_r, bk_n, bk_r, bk_x, rt_r, rt_n, rs_0, rs_t, pk_1, pk_2, up_at, reduceIte, Nat.reduceEqDiff]
            have hF6' : Fr lv l c w { w6 with drawn := w6.drawn + 1 } w.heap.size b3 b4 (tkAt l a) (Ex.mk 0 0 (bs []) nl [] (tkAt l a).line (tkAt l a).col) (a + 1 + 1) := hF6.mod0 ((Mod.refl _ w6).drawn _)
            have tail : ∀ (K : Value → World → Prop) (w7 : World) (e1 : Ex), Fr lv l c w w7 w.heap.size b3 b4 (tkAt l a) (Ex.mk 0 0 (bs []) nl [] (tkAt l a).line (tkAt l a).col) a3 → Got w6 w7 e1 e0 →
                (∀ w9 e', Fr lv l c w w9 w.heap.size b3 b4 (tkAt l a) e' a3 → Got w w9 e' ⟨4, 0, bs [], nl, [e0], (tkAt l a).line, (tkAt l a).col⟩ → (e'.In fun k => w.heap.size ≠ k) → ∀ x, K x w9) →
                CK Tryd.prog (.func (.func 94) #[] #[]) [.agg (Ex.mk 0 0 (bs []) nl [] (tkAt l a).line (tkAt l a).col).cells.toArray, .int .u8 4, .agg e1.cells.toArray] w7 fun x w => True ∧ (UK Tryd.prog (Instr.storeAt 29 (pq b4) x) w fun _ w => True ∧ K x w) := by
              intro K w7 e1 hF7 hg1 hK
              refine CK_st Tryd.func94 rfl rfl (one_ok (w := w7) (e := ⟨0, 0, bs [], nl, [], (tkAt l a).line, (tkAt l a).col⟩) (p := e1) (op := 4) rfl (fine_mk (by decide) (by decide) (by decide) tf3 tf4) (by decide) hg1.own) ?_
              rintro _ w8 ⟨s', rfl, ho8, hlo, hm8⟩
              have hF8 := hF7.mod0 hm8
              have hl6 := hF6.ltw
              have hl7 := hF7.ltw
              refine ⟨trivial, ?_⟩
              refine stS (old := (Ex.mk 0 0 (bs []) nl [] (tkAt l a).line (tkAt l a).col).cells.toArray) (cs := (Ex.mk 4 0 (bs []) s' [e1] (tkAt l a).line (tkAt l a).col).cells.toArray) rfl rfl iEx rfl (own_one ho8) hF8.h4 fun w9 h9 hm9 hz9 => ?_
              have hF9 := hF8.put (e' := ⟨4, 0, bs [], s', [e1], _, _⟩) hm9 h9
              have hin : (Ex.mk 4 0 (bs []) s' [e1] (tkAt l a).line (tkAt l a).col).In fun k => b4 < k := by
                refine Ex.in_.2 ⟨fun k hk => by have := hlo k hk; omega, fun a' ha' => ?_⟩
                rw [List.mem_singleton.1 ha']
                exact hg1.in_.mono fun k hk => by omega
              refine ⟨trivial, hK _ _ hF9 ⟨?_, ho8.mod hm9 (hin.mono fun k hk q => by omega), hin.mono fun k hk => by omega⟩ (hin.mono fun k hk => by omega) _⟩
              rw [Ex.er_eq]
              simp only [List.map_cons, List.map_nil, hg1.er]
              rfl
            constructor
            · refine ldS (cs := (Ex.mk 0 0 (bs []) nl [] (tkAt l a).line (tkAt l a).col).cells.toArray) rfl Tryd.underlying29 rfl iEx hF6'.h4 ⟨trivial, ?_⟩
              refine CK_st Tryd.func68 rfl rfl (hE 0 _ _ he (by omega) _ hF6'.pw) ?_
              rintro _ w7 ⟨e1, rfl, hg1, h7, hm7⟩
              refine ⟨trivial, tail _ w7 e1 (hF6'.cur hm7 h7) ⟨hg1.er, hg1.own, hg1.in_⟩ fun w9 e' hF9 hg9 hi9 x9 => ?_⟩
              exact fin _ _ _ rfl rfl rfl hF9 hg9 hi9
            · refine CK_st Tryd.func68 rfl rfl (hE 0 _ _ he (by omega) _ hF6'.pw) ?_
              rintro _ w7 ⟨e1, rfl, hg1, h7, hm7⟩
              have hF7 := hF6'.cur hm7 h7
              refine ⟨trivial, ldS (cs := (Ex.mk 0 0 (bs []) nl [] (tkAt l a).line (tkAt l a).col).cells.toArray) rfl Tryd.underlying29 rfl iEx hF7.h4 ⟨trivial, ?_⟩⟩
              refine tail _ w7 e1 hF7 ⟨hg1.er, hg1.own, hg1.in_⟩ fun w9 e' hF9 hg9 hi9 x9 => ?_
              exact fin _ _ _ rfl rfl rfl hF9 hg9 hi9
    | false =>
      rw [hrow] at hF5 hr
      simp only [↓VG_u, ↓UG_u, ↓MG_u, ↓NG_u, ↓PG_u, ↓BG_u, ↓CG_u, ↓IG_u, ↓VGtt, ↓VGtf, ↓VGft, ↓VGff, ↓UGtt, ↓UGtf, ↓UGft, ↓UGff, ↓MGtt, ↓MGtf, ↓MGft, ↓MGff, ↓NGtt, ↓NGtf, ↓NGft, ↓NGff, ↓PGtt, ↓PGtf, ↓PGft, ↓PGff, ↓BGtt, ↓BGtf, ↓BGft, ↓BGff, ↓CGtt, ↓CGtf, ↓CGft, ↓CGff, ↓IGtt, ↓IGtf, ↓IGft, ↓IGff, ↓PKt, ↓PKf, ↓CDt, ↓CDf, ↓NOTt, ↓NOTf, ↓NK_ptr]
      simp only [Bool.false_eq_true, if_false] at hr hF5
      by_cases hneg : mayP l a [45] = true ∨ mayP l a [33] = true
      · rw [if_pos hneg] at hr; cases hr
      rw [if_neg hneg] at hr
      have hn1 : mayP l a [45] = false := by cases hq : mayP l a [45] with | false => rfl | true => exact absurd (.inl hq) hneg
      have hn2 : mayP l a [33] = false := by cases hq : mayP l a [33] with | false => rfl | true => exact absurd (.inr hq) hneg
      refine CK_st Tryd.func37 rfl rfl (may_ok hF5.pw hG [45]) ?_
      rintro _ w6 ⟨rfl, h6, hm6⟩
      have hF6 := hF5.cur hm6 h6
      rw [hn1] at hF6 ⊢
      simp only [Bool.false_eq_true, if_false] at hF6
      simp only [↓VG_u, ↓UG_u, ↓MG_u, ↓NG_u, ↓PG_u, ↓BG_u, ↓CG_u, ↓IG_u, ↓VGtt, ↓VGtf, ↓VGft, ↓VGff, ↓UGtt, ↓UGtf, ↓UGft, ↓UGff, ↓MGtt, ↓MGtf, ↓MGft, ↓MGff, ↓NGtt, ↓NGtf, ↓NGft, ↓NGff, ↓PGtt, ↓PGtf, ↓PGft, ↓PGff, ↓BGtt, ↓BGtf, ↓BGft, ↓BGff, ↓CGtt, ↓CGtf, ↓CGft, ↓CGff, ↓IGtt, ↓IGtf, ↓IGft, ↓IGff, ↓PKt, ↓PKf, ↓CDt, ↓CDf, ↓NOTt, ↓NOTf, ↓NK_ptr]
      refine CK_st Tryd.func37 rfl rfl (may_ok hF6.pw hG [33]) ?_
      rintro _ w7 ⟨rfl, h7, hm7⟩
      have hF7 := hF6.cur hm7 h7
      rw [hn2] at hF7 ⊢
      simp only [Bool.false_eq_true, if_false] at hF7
      simp only [↓VG_u, ↓UG_u, ↓MG_u, ↓NG_u, ↓PG_u, ↓BG_u, ↓CG_u, ↓IG_u, ↓VGtt, ↓VGtf, ↓VGft, ↓VGff, ↓UGtt, ↓UGtf, ↓UGft, ↓UGff, ↓MGtt, ↓MGtf, ↓MGft, ↓MGff, ↓NGtt, ↓NGtf, ↓NGft, ↓NGff, ↓PGtt, ↓PGtf, ↓PGft, ↓PGff, ↓BGtt, ↓BGtf, ↓BGft, ↓BGff, ↓CGtt, ↓CGtf, ↓CGft, ↓CGff, ↓IGtt, ↓IGtf, ↓IGft, ↓IGff, ↓PKt, ↓PKf, ↓CDt, ↓CDf, ↓NOTt, ↓NOTf, ↓NK_ptr]
      refine CK_st Tryd.func37 rfl rfl (may_ok hF7.pw hG [40]) ?_
      rintro _ w8 ⟨rfl, h8, hm8⟩
      have hF8 := hF7.cur hm8 h8
      cases hpar : mayP l a [40] with
      | false => rw [hpar] at hr; simp at hr
      | true =>
        rw [hpar] at hF8 hr
        simp only [if_true] at hF8 hr
        simp only [↓VG_u, ↓UG_u, ↓MG_u, ↓NG_u, ↓PG_u, ↓BG_u, ↓CG_u, ↓IG_u, ↓VGtt, ↓VGtf, ↓VGft, ↓VGff, ↓UGtt, ↓UGtf, ↓UGft, ↓UGff, ↓MGtt, ↓MGtf, ↓MGft, ↓MGff, ↓NGtt, ↓NGtf, ↓NGft, ↓NGff, ↓PGtt, ↓PGtf, ↓PGft, ↓PGff, ↓BGtt, ↓BGtf, ↓BGft, ↓BGff, ↓CGtt, ↓CGtf, ↓CGft, ↓CGff, ↓IGtt, ↓IGtf, ↓IGft, ↓IGff, ↓PKt, ↓PKf, ↓CDt, ↓CDf, ↓NOTt, ↓NOTf, ↓NK_ptr]
        cases he : exprTk l n 0 (a + 1) with
        | none => rw [he] at hr; cases hr
        | some q =>
          obtain ⟨e0, a3⟩ := q
          rw [he] at hr
          dsimp only at hr
          cases hn3 : needP l a3 [41] with
          | none => rw [hn3] at hr; cases hr
          | some a4 =>
            rw [hn3] at hr
            obtain ⟨hm9, rfl⟩ := need_some hn3
            cases hr
            have lo := hF8.lo
            have hl8 := hF8.ltw
            refine CK_st Tryd.func68 rfl rfl (hE 0 _ _ he (by omega) _ hF8.pw) ?_
            rintro _ w9 ⟨e1, rfl, hg1, h9, hm9'⟩
            have hF9 := hF8.cur hm9' h9
            refine stS (old := (Ex.mk 0 0 (bs []) nl [] (tkAt l a).line (tkAt l a).col).cells.toArray) (cs := e1.cells.toArray) rfl rfl iEx rfl (own_one hg1.own) hF9.h4 fun w10 h10 hm10 hz10 => ?_
            have hF10 := hF9.put hm10 h10
            refine CK_st Tryd.func41 rfl rfl (need_ok hF10.pw hG hm9) ?_
            rintro _ w11 ⟨h11, hm11⟩
            have hF11 := hF10.cur hm11 h11
            refine hF11.ret (pe := e0) ?_ (hg1.in_.mono fun k hk => by omega) fun w' hg hp hm => ⟨_, rfl, hg, hp, hm⟩
            exact ((hg1.at hm10 (by omega)).at hm11 (by omega)).low (by omega)
end
end Go.Proofs.YtpkfbaagpjdifaaDoor.Tr
set_option linter.unusedVariables false
set_option linter.unusedSimpArgs false
set_option maxRecDepth 4000
namespace Go.Proofs.YtpkfbaagpjdifaaDoor.Tr
open Go Go.X Go.RowKit Go.Proofs.YtpkfbaagpjdifaaDoor.XD Go.Proofs.YtpkfbaagpjdifaaDoor.XK
section
variable {lv : Value} {l : List Tk} {c : Nat}
theorem retX {w0 w : World} {b4 b5 a' : Nat} {e pe : Ex} (h4 : w.heap[b4]? = some (.cells zExc.toArray tE (0, 0))) (h5 : w.heap[b5]? = some (.cells e.cells.toArray tE (0, 0))) (hg : Got w0 w e pe) (hi : e.In fun k => k ≠ b4) (hp : PW w lv l c a') (hm : Mod (fun i => i = c) w0 w) (hb : w0.heap.size ≤ b4) (hc : c < w0.heap.size) (hlo : ∀ g, lv.ownBlock = some g → g < w0.heap.size)
    {R : Value → World → Prop} {ρ : Value → Sl} (hq : ∀ x, ρ x 4 = pq b4) (hR : ∀ w', Got w0 w' e pe → PW w' lv l c a' → Mod (fun i => i = c) w0 w' → R (.agg e.cells.toArray) w') :
    VK Tryd.prog (Instr.loadAt 29 (pq b5)) w fun x w => UK Tryd.prog (Instr.storeAt 29 (pq b4) x) w fun _ w => resK Tryd.prog (ρ x) (fun vs w => R (packV vs) w) [ResultVar.cell 4 29] w := by
  refine ldS (cs := e.cells.toArray) rfl Tryd.underlying29 rfl iEx h5 ?_
  refine stS (old := zExc.toArray) (cs := e.cells.toArray) rfl rfl iEx rfl (own_one hg.own) h4 fun w1 h1 hm1 hz1 => ?_
  have hR1 := hR w1 ⟨hg.er, hg.own.mod hm1 hi, hg.in_⟩ (hp.off hm1 fun k q => ⟨by omega, fun g hg => by have := hlo g hg; omega⟩) (hm.then hm1 fun i hi q => by omega)
  exact rsCell (R := fun v w => R v w) (cs := e.cells.toArray) (hq _) Tryd.underlying29 rfl iEx h1 hR1
theorem expr_step (hG : Good l) {n : Nat} (hE : ∀ m, m ≤ n → ExprC lv l c m) (hS : SingleC lv l c n) : ExprC lv l c (n + 1) := by
  intro k a r hr hk w hw
  rw [exprTk] at hr
  refine dispatcherref02_cursor_expr_calls ?_
  unfold dispatcherref02_cursor_expr_F
  refine al_k (cs := zExc.toArray) zEx rfl _ fun w1 hb1 hm1 hz1 => ?_
  have hw1 := hw.mod0 hm1
  have hcw : c < w.heap.size := blk_lt hw.cur
  have hlo : ∀ g, lv.ownBlock = some g → g < w.heap.size := fun g hg => owns_lt hw.toks hg
  refine CK_st Tryd.func42 rfl rfl (good_ok hw1) ?_
  rintro _ w2 ⟨rfl, rfl⟩
  by_cases h4 : 4 < k
  · rw [if_pos h4] at hr
    simp only [↓VG_u, ↓UG_u, ↓MG_u, ↓NG_u, ↓PG_u, ↓BG_u, ↓CG_u, ↓IG_u, ↓VGtt, ↓VGtf, ↓VGft, ↓VGff, ↓UGtt, ↓UGtf, ↓UGft, ↓UGff, ↓MGtt, ↓MGtf, ↓MGft, ↓MGff, ↓NGtt, ↓NGtf, ↓NGft, ↓NGff, ↓PGtt, ↓PGtf, ↓PGft, ↓PGff, ↓BGtt, ↓BGtf, ↓BGft, ↓BGff, ↓CGtt, ↓CGtf, ↓CGft, ↓CGff, ↓IGtt, ↓IGtf, ↓IGft, ↓IGff, ↓PKt, ↓PKf, ↓CDt, ↓CDf, ↓NOTt, ↓NOTf, ↓NK_ptr, ↓GTt (show (4 : Int) < (k : Int) by omega)]
    refine CK_st Tryd.func82 rfl rfl (hS a r hr _ hw1) ?_
    rintro _ w3 ⟨e, rfl, hg, h3, hm3⟩
    refine stS (old := zExc.toArray) (cs := e.cells.toArray) rfl rfl iEx rfl (own_one hg.own) (hm3.blk hb1 (by omega)) fun w4 hb4 hm4 hz4 => ?_
    refine rsCell (R := fun v w' => ∃ e, v = .agg e.cells.toArray ∧ Got w w' e r.1 ∧ PW w' lv l c r.2 ∧ Mod (fun i => i = c) w w') (cs := e.cells.toArray) rfl Tryd.underlying29 rfl iEx hb4 ⟨e, rfl, ⟨hg.er, hg.own.mod hm4 (hg.in_.mono fun k hk q => by omega), hg.in_.mono fun k hk => by omega⟩, h3.off hm4 (fun k q => ⟨by omega, fun g hg => by have := hlo g hg; omega⟩), ((up1 hm1).trans hm3).then hm4 fun i hi q => by omega⟩
  · rw [if_neg h4] at hr
    cases he : exprTk l n (k + 1) a with
    | none => rw [he] at hr; cases hr
    | some q =>
      obtain ⟨e0, a2⟩ := q
      rw [he] at hr
      dsimp only at hr
      simp only [↓VG_u, ↓UG_u, ↓MG_u, ↓NG_u, ↓PG_u, ↓BG_u, ↓CG_u, ↓IG_u, ↓VGtt, ↓VGtf, ↓VGft, ↓VGff, ↓UGtt, ↓UGtf, ↓UGft, ↓UGff, ↓MGtt, ↓MGtf, ↓MGft, ↓MGff, ↓NGtt, ↓NGtf, ↓NGft, ↓NGff, ↓PGtt, ↓PGtf, ↓PGft, ↓PGff, ↓BGtt, ↓BGtf, ↓BGft, ↓BGff, ↓CGtt, ↓CGtf, ↓CGft, ↓CGff, ↓IGtt, ↓IGtf, ↓IGft, ↓IGff, ↓PKt, ↓PKf, ↓CDt, ↓CDf, ↓NOTt, ↓NOTf, ↓NK_ptr, ↓GTf (show (k : Int) ≤ 4 by omega)]
      refine BKadd (a := k) (b := 1) rfl rfl (by omega) (by omega) ?_
      rw [show ((k : Int) + 1) = ((k + 1 : Nat) : Int) by omega]
      refine CK_st Tryd.func68 rfl rfl (hE n (Nat.le_refl n) (k + 1) a _ he (by omega) _ hw1) ?_
      rintro _ w3 ⟨e1, rfl, hg1, h3, hm3⟩
      have hs3 := hm3.size
      have hb13 := hm3.blk hb1 (by omega)
      refine lcl_k (cs := e1.cells.toArray) zEx _ iEx rfl (own_one hg1.own) fun w4 hb4 hm4 hz4 => ?_
      have h4w := h3.mod0 hm4
      have hb14 := hm4.blk hb13 id
      have hm04 : Mod (fun i => i = c) w w4 := ((up1 hm1).trans hm3).trans (up1 hm4)
      obtain ⟨b5, hb5⟩ : ∃ b5, b5 = w3.heap.size := ⟨_, rfl⟩
      rw [← hb5] at hb4 hz4 ⊢
      have hin1 : e1.In fun k => w.heap.size ≤ k ∧ k ≠ w.heap.size ∧ k ≠ b5 := by
        refine (hg1.in_.and hg1.own.lt).mono fun k hk => ?_
        omega
      have hb5' : w.heap.size < b5 := by omega
      refine W_loopG dispatcherref02_cursor_expr_L0_ok (fun m ρ w' => ∃ (e pe : Ex) (a' : Nat), m ≤ n ∧ loopP l m k pe a' = some r ∧ ρ 0 = pq c ∧ ρ 1 = .int .i64 k ∧ ρ 4 = pq w.heap.size ∧ ρ 5 = pq b5 ∧ w'.heap[w.heap.size]? = some (.cells zExc.toArray tE (0, 0)) ∧ w'.heap[b5]? = some (.cells e.cells.toArray tE (0, 0)) ∧ Got w w' e pe ∧ (e.In fun k => k ≠ w.heap.size ∧ k ≠ b5) ∧ PW w' lv l c a' ∧ Mod (fun i => i = c) w w') n
        ⟨e1, e0, a2, Nat.le_refl n, hr, rfl, rfl, rfl, rfl, hb14, hb4, ⟨hg1.er, hg1.own.mod0 hm4, hin1.mono fun k hk => hk.1⟩, hin1.mono fun k hk => hk.2, h4w, hm04⟩ ?_
      rintro m ρ w5 ⟨e, pe, a', hmn, hl, q0, q1, q4, q5, c4, c5, hg, hi, hp, hm⟩
      rw [dispatcherref02_cursor_expr_L0_eq]
      unfold dispatcherref02_cursor_expr_L0_F
      rw [q0, q1, q4, q5]
      cases m with
      | zero => simp [loopP] at hl
      | succ m =>
      rw [loopP] at hl
      refine CK_st Tryd.func42 rfl rfl (good_ok hp) ?_
      rintro _ w6 ⟨rfl, rfl⟩
      refine condT ?_
      refine CK_st Tryd.func38 rfl rfl (next_ok hp hG) ?_
      rintro _ w7 ⟨rfl, hm7⟩
      refine lcl_k (cs := (tkAt l a').cells.toArray) zTkg _ iTk rfl (tk_one _) fun w8 hb8 hm8 hz8 => ?_
      have hm68 := hm7.trans hm8
      have hs0 := hm.size
      have hs7 := hm7.size
      have hb5w : b5 < w6.heap.size := blk_lt c5
      obtain ⟨k0, k1, k2, k3, k4⟩ := tk_fo hb8
      obtain ⟨b6, hb6⟩ : ∃ b6, b6 = w7.heap.size := ⟨_, rfl⟩
      rw [← hb6] at hb8 hz8 k0 k1 k2 k3 k4 ⊢
      simp only [↓k1.e]
      refine CK_st Tryd.func83 rfl rfl (Two_ok _ w8) ?_
      rintro _ w9 ⟨rfl, rfl⟩
      rw [extract_ok (v := .int .u8 (twoP (tkAt l a').text).1) rfl, extract_ok (v := .int .i64 (twoP (tkAt l a').text).2) rfl]
      have c48 := hm68.blk c4 id
      have c58 := hm68.blk c5 id
      have hp8 := hp.mod0 hm68
      have hg8 := hg.mod0 hm68
      have hm08 := hm.trans (up1 hm68)
      have stop : ∀ (K : Exit → Sl → World → Prop), r = (pe, a') → ∀ ρ' : Value → Sl, (∀ x, ρ' x 4 = pq w.heap.size) → VK Tryd.prog (Instr.loadAt 29 (pq b5)) w9 fun x w_1 => UK Tryd.prog (Instr.storeAt 29 (pq w.heap.size) x) w_1 fun _ w_2 => resK Tryd.prog (ρ' x) (fun vs w' => ∃ e, packV vs = .agg e.cells.toArray ∧ Got w w' e r.1 ∧ PW w' lv l c r.2 ∧ Mod (fun i => i = c) w w') [ResultVar.cell 4 29] w_2 := by
        intro K hre ρ' hq
        subst hre
        exact retX c48 c58 hg8 (hi.mono fun k hk => hk.1) hp8 hm08 (Nat.le_refl _) hcw hlo hq (R := fun v w' => ∃ e, v = .agg e.cells.toArray ∧ Got w w' e pe ∧ PW w' lv l c a' ∧ Mod (fun i => i = c) w w') fun w' hg hp hm => ⟨_, rfl, hg, hp, hm⟩
      by_cases hk0 : (tkAt l a').kind = 0
      · rw [if_pos (.inl hk0)] at hl
        cases hl
        simp only [↓VG_u, ↓UG_u, ↓MG_u, ↓NG_u, ↓PG_u, ↓BG_u, ↓CG_u, ↓IG_u, ↓VGtt, ↓VGtf, ↓VGft, ↓VGff, ↓UGtt, ↓UGtf, ↓UGft, ↓UGff, ↓MGtt, ↓MGtf, ↓MGft, ↓MGff, ↓NGtt, ↓NGtf, ↓NGft, ↓NGff, ↓PGtt, ↓PGtf, ↓PGft, ↓PGff, ↓BGtt, ↓BGtf, ↓BGft, ↓BGff, ↓CGtt, ↓CGtf, ↓CGft, ↓CGff, ↓IGtt, ↓IGtf, ↓IGft, ↓IGff, ↓PKt, ↓PKf, ↓CDt, ↓CDf, ↓NOTt, ↓NOTf, ↓NK_ptr, ↓k0.e, ↓EQt hk0]
        simp only [sq_n, sq_x, sq_r, bk_n, bk_r, bk_x, rt_r, rt_n, rs_0, rs_t, pk_1, pk_2, up_at, reduceIte, Nat.reduceEqDiff]
        exact stop (fun _ _ _ => True) rfl _ fun _ => q4
      by_cases ho0 : (twoP (tkAt l a').text).1 = 0
      · rw [if_pos (.inr (.inl ho0))] at hl
        cases hl
        simp only [↓VG_u, ↓UG_u, ↓MG_u, ↓NG_u, ↓PG_u, ↓BG_u, ↓CG_u, ↓IG_u, ↓VGtt, ↓VGtf, ↓VGft, ↓VGff, ↓UGtt, ↓UGtf, ↓UGft, ↓UGff, ↓MGtt, ↓MGtf, ↓MGft, ↓MGff, ↓NGtt, ↓NGtf, ↓NGft, ↓NGff, ↓PGtt, ↓PGtf, ↓PGft, ↓PGff, ↓BGtt, ↓BGtf, ↓BGft, ↓BGff, ↓CGtt, ↓CGtf, ↓CGft, ↓CGff, ↓IGtt, ↓IGtf, ↓IGft, ↓IGff, ↓PKt, ↓PKf, ↓CDt, ↓CDf, ↓NOTt, ↓NOTf, ↓NK_ptr, ↓k0.e, ↓EQf hk0, ↓EQt ho0]
        simp only [sq_n, sq_x, sq_r, bk_n, bk_r, bk_x, rt_r, rt_n, rs_0, rs_t, pk_1, pk_2, up_at, reduceIte, Nat.reduceEqDiff]
        exact stop (fun _ _ _ => True) rfl _ fun _ => q4
      by_cases hst : (twoP (tkAt l a').text).2 ≠ (k : Int)
      · rw [if_pos (.inr (.inr hst))] at hl
        cases hl
        simp only [↓VG_u, ↓UG_u, ↓MG_u, ↓NG_u, ↓PG_u, ↓BG_u, ↓CG_u, ↓IG_u, ↓VGtt, ↓VGtf, ↓VGft, ↓VGff, ↓UGtt, ↓UGtf, ↓UGft, ↓UGff, ↓MGtt, ↓MGtf, ↓MGft, ↓MGff, ↓NGtt, ↓NGtf, ↓NGft, ↓NGff, ↓PGtt, ↓PGtf, ↓PGft, ↓PGff, ↓BGtt, ↓BGtf, ↓BGft, ↓BGff, ↓CGtt, ↓CGtf, ↓CGft, ↓CGff, ↓IGtt, ↓IGtf, ↓IGft, ↓IGff, ↓PKt, ↓PKf, ↓CDt, ↓CDf, ↓NOTt, ↓NOTf, ↓NK_ptr, ↓k0.e, ↓EQf hk0, ↓EQf ho0, ↓NEt hst]
        simp only [sq_n, sq_x, sq_r, bk_n, bk_r, bk_x, rt_r, rt_n, rs_0, rs_t, pk_1, pk_2, up_at, reduceIte, Nat.reduceEqDiff]
        exact stop (fun _ _ _ => True) rfl _ fun _ => q4
      rw [if_neg (by simp only [hk0, ho0, hst, or_self, not_false_eq_true])] at hl
      have hst : (twoP (tkAt l a').text).2 = (k : Int) := by simpa using hst
      simp only [↓VG_u, ↓UG_u, ↓MG_u, ↓NG_u, ↓PG_u, ↓BG_u, ↓CG_u, ↓IG_u, ↓VGtt, ↓VGtf, ↓VGft, ↓VGff, ↓UGtt, ↓UGtf, ↓UGft, ↓UGff, ↓MGtt, ↓MGtf, ↓MGft, ↓MGff, ↓NGtt, ↓NGtf, ↓NGft, ↓NGff, ↓PGtt, ↓PGtf, ↓PGft, ↓PGff, ↓BGtt, ↓BGtf, ↓BGft, ↓BGff, ↓CGtt, ↓CGtf, ↓CGft, ↓CGff, ↓IGtt, ↓IGtf, ↓IGft, ↓IGff, ↓PKt, ↓PKf, ↓CDt, ↓CDf, ↓NOTt, ↓NOTf, ↓NK_ptr, ↓k0.e, ↓EQf hk0, ↓EQf ho0, ↓NEf hst]
      have hal := kind_lt hk0
      have hwl := hG.len
      refine adv2 hp8 (by omega) fun x2 x3 x4 x6 w10 h10 hm10 hz10 => ?_
      refine BKadd (a := k) (b := 1) rfl rfl (by omega) (by omega) ?_
      rw [show ((k : Int) + 1) = ((k + 1 : Nat) : Int) by omega]
      cases hee : exprTk l m (k + 1) (a' + 1) with
      | none => rw [hee] at hl; cases hl
      | some q =>
      obtain ⟨er, a3⟩ := q
      rw [hee] at hl
      dsimp only at hl
      refine CK_st Tryd.func68 rfl rfl (hE m (by omega) (k + 1) (a' + 1) _ hee (by omega) _ h10) ?_
      rintro _ w11 ⟨e2, rfl, hg2, h11, hm11⟩
      have hs8 : w6.heap.size < w9.heap.size := by omega
      have hs11 := hm11.size
      have hb8' := hm11.blk (hm10.blk hb8 (by omega)) (by omega)
      have c411 := hm11.blk (hm10.blk c48 (by omega)) (by omega)
      have c511 := hm11.blk (hm10.blk c58 (by omega)) (by omega)
      have hg11 := (hg8.at hm10 hcw).at hm11 hcw
      have hm011 := (hm08.trans hm10).trans hm11
      refine lcl_k (cs := e2.cells.toArray) zEx _ iEx rfl (own_one hg2.own) fun w12 hb12 hm12 hz12 => ?_
      obtain ⟨k0, k1, k2, k3, k4⟩ := tk_fo (hm12.blk hb8' id)
      simp only [↓k3.e, ↓k4.e]
      rw [build_ok (bEx3 _ _ _)]
      refine lcl_k (cs := (Ex.mk (twoP (tkAt l a').text).1 0 (bs []) nl [] (tkAt l a').line (tkAt l a').col).cells.toArray) zEx _ iEx rfl (ex_cells_one rfl) fun w13 hb13 hm13 hz13 => ?_
      have hm1113 := hm12.trans hm13
      have hb1213 := hm13.blk hb12 id
      have c413 := hm1113.blk c411 id
      have c513 := hm1113.blk c511 id
      obtain ⟨b9, hb9⟩ : ∃ b9, b9 = w11.heap.size := ⟨_, rfl⟩
      obtain ⟨b10, hb10⟩ : ∃ b10, b10 = w12.heap.size := ⟨_, rfl⟩
      rw [← hb10] at hb13 hz13 ⊢
      rw [← hb9] at hb12 hb1213 hz12 ⊢
      have hs12 := hm12.size
      obtain ⟨f0, f1, f2, f3, f4, f5⟩ := ex_fo hb13
      simp only [↓f3.e]
      refine ldS (cs := e.cells.toArray) rfl Tryd.underlying29 rfl iEx c513 ?_
      refine ldS (cs := e2.cells.toArray) rfl Tryd.underlying29 rfl iEx hb1213 ?_
      refine bs_k (cs := (e.cells ++ e2.cells).toArray) (by kernel_rfl) fun w14 hb14' hm14 hz14 => ?_
      have hg14 := (hg11.mod0 hm1113).mod0 hm14
      have hg214 := (hg2.mod0 hm1113).mod0 hm14
      refine appEx (m := [e, e2]) (ExsOwn.nil w14 0) (by simpa using reads_blk (size := 6) (n := 2) hb14' rfl) (by simp) ?_ (by simp) (Nat.zero_le _) fun v15 w15 hO15 hm15 hg15 => ?_
      · intro z hz
        have hnn : ∀ {z : Ex}, z.Own w14 tE → z.In fun k => 0 ≤ k ∧ some k ≠ (Value.slice none 0 0).ownBlock := fun h => h.lt.mono fun k _ => ⟨Nat.zero_le _, by simp [Value.ownBlock]⟩
        simp only [List.mem_cons, List.not_mem_nil, or_false] at hz
        rcases hz with rfl | rfl
        · exact ⟨hg14.own, hnn hg14.own⟩
        · exact ⟨hg214.own, hnn hg214.own⟩
      have hm15' : Mod none_ w14 w15 := hm15.mono fun k _ q => by simp [nl, Value.ownBlock] at q
      have hlow : ∀ k, v15.ownBlock = some k → w14.heap.size ≤ k := by
        intro k hk
        rcases hg15 with q | ⟨g, q, hg⟩
        · rw [q] at hk; simp [nl, Value.ownBlock] at hk
        · rw [q] at hk; cases hk; exact hg
      have hm1115 := (hm1113.trans hm14).trans hm15'
      obtain ⟨nu, hnu⟩ : ∃ nu : Ex, nu = ⟨(twoP (tkAt l a').text).1, 0, bs [], v15, [e, e2], (tkAt l a').line, (tkAt l a').col⟩ := ⟨_, rfl⟩
      refine fst_k (off := 3) (by kernel_rfl) (by kernel_rfl) (owns_slice hO15.row) ((hm14.trans hm15').blk hb13 id) (by simp [Ex.cells]) (cs' := nu.cells.toArray) (by rw [hnu]; rfl) fun x w16 h16 hm16 hz16 => ?_
      obtain ⟨tf1, tf2, tf3, tf4⟩ := tk_fine hG a'
      have hfine : nu.fine := by rw [hnu]; exact fine_mk (two_wf _) (by decide) (by decide) tf3 tf4
      have hown15 : nu.Own w15 tE := by rw [hnu]; exact Ex.own_.2 ⟨hO15.row, hnu ▸ hfine, hO15.own⟩
      have hi2 := hg2.in_
      have hs14 := hm14.size
      have hz14' : w14.heap.size = w13.heap.size + 1 := hz14
      have hinA : e.In fun k => w.heap.size ≤ k ∧ k ≠ w.heap.size ∧ k ≠ b5 ∧ k < b9 := ((hg.in_.and hi).and hg11.own.lt).mono fun k hk => by omega
      have hinB : e2.In fun k => b5 < k ∧ k < b9 := (hi2.and hg2.own.lt).mono fun k hk => by omega
      have hinN : nu.In fun k => w.heap.size ≤ k ∧ k ≠ w.heap.size ∧ k ≠ b5 ∧ k ≠ b10 := by
        rw [hnu]
        refine Ex.in_.2 ⟨fun k hk => by have := hlow k hk; omega, fun z hz => ?_⟩
        simp only [List.mem_cons, List.not_mem_nil, or_false] at hz
        rcases hz with rfl | rfl
        · exact hinA.mono fun k hk => by omega
        · exact hinB.mono fun k hk => by omega
      have hown16 := hown15.mod hm16 (hinN.mono fun k hk q => hk.2.2.2 q)
      refine ldS (cs := nu.cells.toArray) rfl Tryd.underlying29 rfl iEx h16 ?_
      have c516 := hm16.blk ((hm14.trans hm15').blk c513 id) (by omega)
      have c416 := hm16.blk ((hm14.trans hm15').blk c413 id) (by omega)
      refine stS (old := e.cells.toArray) (cs := nu.cells.toArray) rfl rfl iEx rfl (own_one hown16) c516 fun w17 h17 hm17 hz17 => ?_
      have c417 := hm17.blk c416 (by omega)
      have hown17 := hown16.mod hm17 (hinN.mono fun k hk q => hk.2.2.1 q)
      have hp17 : PW w17 lv l c a3 := ((h11.mod0 hm1115).off hm16 fun k q => ⟨by omega, fun g hg => by have := hlo g hg; omega⟩).off hm17 fun k q => ⟨by omega, fun g hg => by have := hlo g hg; omega⟩
      have hm017 : Mod (fun i => i = c) w w17 := ((hm011.trans (up1 hm1115)).then hm16 fun i hi q => by omega).then hm17 fun i hi q => by omega
      have hgN : Got w w17 nu ⟨(twoP (tkAt l a').text).1, 0, bs [], nl, [pe, er], (tkAt l a').line, (tkAt l a').col⟩ := by
        refine ⟨?_, hown17, hinN.mono fun k hk => hk.1⟩
        rw [hnu, Ex.er_eq]
        simp only [List.map_cons, List.map_nil, hg.er, hg2.er]
        rfl
      by_cases hk2 : k = 2
      · rw [if_pos hk2] at hl
        simp only [↓VG_u, ↓UG_u, ↓MG_u, ↓NG_u, ↓PG_u, ↓BG_u, ↓CG_u, ↓IG_u, ↓VGtt, ↓VGtf, ↓VGft, ↓VGff, ↓UGtt, ↓UGtf, ↓UGft, ↓UGff, ↓MGtt, ↓MGtf, ↓MGft, ↓MGff, ↓NGtt, ↓NGtf, ↓NGft, ↓NGff, ↓PGtt, ↓PGtf, ↓PGft, ↓PGff, ↓BGtt, ↓BGtf, ↓BGft, ↓BGff, ↓CGtt, ↓CGtf, ↓CGft, ↓CGff, ↓IGtt, ↓IGtf, ↓IGft, ↓IGff, ↓PKt, ↓PKf, ↓CDt, ↓CDf, ↓NOTt, ↓NOTf, ↓NK_ptr, ↓EQt (show (k : Int) = 2 by omega)]
        simp only [sq_n, sq_x, sq_r, bk_n, bk_r, bk_x, rt_r, rt_n, rs_0, rs_t, pk_1, pk_2, up_at, reduceIte, Nat.reduceEqDiff]
        cases hl
        exact retX c417 h17 hgN (hinN.mono fun k hk => hk.2.1) hp17 hm017 (Nat.le_refl _) hcw hlo (fun _ => q4) (R := fun v w' => ∃ e, v = .agg e.cells.toArray ∧ Got w w' e ⟨(twoP (tkAt l a').text).1, 0, bs [], nl, [pe, er], (tkAt l a').line, (tkAt l a').col⟩ ∧ PW w' lv l c a3 ∧ Mod (fun i => i = c) w w') fun w' hg hp hm => ⟨_, rfl, hg, hp, hm⟩
      · rw [if_neg hk2] at hl
        simp only [↓VG_u, ↓UG_u, ↓MG_u, ↓NG_u, ↓PG_u, ↓BG_u, ↓CG_u, ↓IG_u, ↓VGtt, ↓VGtf, ↓VGft, ↓VGff, ↓UGtt, ↓UGtf, ↓UGft, ↓UGff, ↓MGtt, ↓MGtf, ↓MGft, ↓MGff, ↓NGtt, ↓NGtf, ↓NGft, ↓NGff, ↓PGtt, ↓PGtf, ↓PGft, ↓PGff, ↓BGtt, ↓BGtf, ↓BGft, ↓BGff, ↓CGtt, ↓CGtf, ↓CGft, ↓CGff, ↓IGtt, ↓IGtf, ↓IGft, ↓IGff, ↓PKt, ↓PKf, ↓CDt, ↓CDf, ↓NOTt, ↓NOTf, ↓NK_ptr, ↓EQf (show (k : Int) ≠ 2 by omega)]
        exact ⟨m, Nat.lt_succ_self m, nu, _, a3, by omega, hl, q0, q1, q4, q5, c417, h17, hgN, hinN.mono fun k hk => ⟨hk.2.1, hk.2.2.1⟩, hp17, hm017⟩
theorem exprC_all (hG : Good l) : ∀ n, ExprC lv l c n ∧ SingleC lv l c n := by
  intro n
  induction n using Nat.strongRecOn with
  | ind n ih =>
    cases n with
    | zero => exact ⟨fun k a r h => by simp [exprTk] at h, fun a r h => by simp [singleP] at h⟩
    | succ n => exact ⟨expr_step hG (fun m hm => (ih m (by omega)).1) (ih n (by omega)).2, single_step hG (ih n (by omega)).1⟩
theorem expr_ok (hG : Good l) (n : Nat) : ExprC lv l c n := (exprC_all hG n).1
end
end Go.Proofs.YtpkfbaagpjdifaaDoor.Tr
