/- Several texts of this repo, one behind the other, without what is not used here. -/
import Derived.Test.YtandbmnhghmcgaaDoorProg
import Derived.Lib.ItoaNum
import Derived.Test.YtandbmnhghmcgaaDoorCV1
set_option linter.unusedVariables false
set_option maxRecDepth 100000
namespace Go.Proofs.YtandbmnhghmcgaaDoor.XF
open Go Go.X
noncomputable def coll_New_b : Code := (Tryd.f11.body).getD .skip
noncomputable def coll_New_F (a0 : Value) (w : World) (R : Value → World → Prop) : Prop :=
  VK Tryd.prog (Instr.makeMap 70 none) w fun x4 w => VK Tryd.prog (Instr.build 72 [(0, a0), (1, x4)].toArray) w fun x5 w => VK Tryd.prog (Instr.box 72 x5) w fun x6 w => R x6 w
theorem coll_New_eq (a0 : Value) (w : World) (R : Value → World → Prop) : sx fn_ Tryd.prog 7 coll_New_b (retK Tryd.prog Tryd.f11.results.toList R) (rho0 [a0]) w = coll_New_F a0 w R := by kernel_rfl
theorem coll_New_calls {a0 : Value} {w : World} {R : Value → World → Prop} (h : coll_New_F a0 w R) : Calls Tryd.prog 11 #[a0] w fun e w' => ∃ v, e = .returned v ∧ R v w' :=
  Go.X.calls_of_sx (n := 7) (c := coll_New_b) Tryd.func11 (by kernel_rfl) (by kernel_rfl) (Nat.le_of_ble_eq_true rfl) (by kernel_rfl) (Eq.mpr (coll_New_eq a0 w R) h)
noncomputable def coll_Coll_Copy_b : Code := (Tryd.f15.body).getD .skip
noncomputable def coll_Coll_Copy_L0 : Code := cAt [1, 1, 1, 1, 0, 1, 0, 0] coll_Coll_Copy_b
noncomputable def coll_Coll_Copy_R1 : Code := cAt [1, 1, 1, 1, 1] coll_Coll_Copy_b
noncomputable def coll_Coll_Copy_R2 : Code := cAt [1, 1, 1, 1, 0, 1, 0, 0, 1, 1, 0, 1, 0] coll_Coll_Copy_b
noncomputable def coll_Coll_Copy_R3 : Code := cAt [1, 1, 1, 1, 0, 1, 0, 0, 1, 1, 0, 1, 1] coll_Coll_Copy_b
noncomputable def coll_Coll_Copy_L4 : Code := cAt [1, 1, 1, 1, 0, 1, 0, 0, 1, 1, 0, 1, 1, 0, 1, 0, 0] coll_Coll_Copy_b
noncomputable def coll_Coll_Copy_R5 : Code := cAt [1, 1, 1, 1, 0, 1, 0, 0, 1, 1, 0, 1, 1, 1] coll_Coll_Copy_b
noncomputable def coll_Coll_Copy_R6 : Code := cAt [1, 1, 1, 1, 0, 1, 0, 0, 1, 1, 0, 1, 1, 0, 1, 0, 0, 1, 1, 0, 0, 1] coll_Coll_Copy_b
noncomputable def coll_Coll_Copy_R7 : Code := cAt [1, 1, 1, 1, 0, 1, 0, 0, 1, 1, 0, 1, 1, 0, 1, 0, 0, 1, 1, 1] coll_Coll_Copy_b
noncomputable def coll_Coll_Copy_L0_F (z : At) (K : Exit → Sl → World → Prop) (ρ : Sl) (w : World) : Prop :=
  VK Tryd.prog (Instr.next (ρ 24) false 0) w fun x25 w => VK Tryd.prog (Instr.extract x25 0) w fun x26 w => CondK x26 (VK Tryd.prog (Instr.entry (ρ 24)) w fun x27 w => VK Tryd.prog (Instr.extract x27 0) w fun x28 w => VK Tryd.prog (Instr.extract x27 1) w fun x29 w => W z Tryd.prog 68 coll_Coll_Copy_R2 (seqK (sx z Tryd.prog 68 coll_Coll_Copy_R3 (blkK 1 K)) (blkK 1 K)) (up (up (up (up (up (up (up ρ 25 x25) 26 x26) 27 x27) 28 x28) 29 x29) 4 x28) 5 x29) w) (K (.exit 0) (up (up ρ 25 x25) 26 x26) w)
theorem coll_Coll_Copy_L0_eq (z : At) (K : Exit → Sl → World → Prop) (ρ : Sl) (w : World) : sx z Tryd.prog 68 coll_Coll_Copy_L0 K ρ w = coll_Coll_Copy_L0_F z K ρ w := by kernel_rfl
theorem coll_Coll_Copy_L0_ok : dstOk 68 coll_Coll_Copy_L0 = true := by kernel_rfl
noncomputable def coll_Coll_Copy_R1_F (z : At) (K : Exit → Sl → World → Prop) (ρ : Sl) (w : World) : Prop :=
  K .ret (up (up ρ 67 (ρ 3)) 2 (ρ 3)) w
theorem coll_Coll_Copy_R1_eq (z : At) (K : Exit → Sl → World → Prop) (ρ : Sl) (w : World) : sx z Tryd.prog 68 coll_Coll_Copy_R1 K ρ w = coll_Coll_Copy_R1_F z K ρ w := by kernel_rfl
noncomputable def coll_Coll_Copy_R2_ops : Array Oper := opsOf coll_Coll_Copy_R2
def coll_Coll_Copy_R2_H0 (S : World → Prop) (K : Sl → World → Prop) (ρ : Sl) (w : World) : Prop :=
  HK Tryd.prog S (nilCk (ρ 5)) fun x31 => HK Tryd.prog S (do pure (Next.value (← Instr.fieldAt 82 x31 0))) fun x32 => HK Tryd.prog S (do pure (Next.value (← Instr.loadAt 32 x32))) fun x33 => HK Tryd.prog S (nilCk (ρ 5)) fun x35 => HK Tryd.prog S (do pure (Next.value (← Instr.fieldAt 82 x35 1))) fun x36 => HK Tryd.prog S (do pure (Next.value (← Instr.loadAt 80 x36))) fun x37 => HK Tryd.prog S (builtin Builtin.len #[80] 3 [false].toArray [x37].toArray) fun x38 => VK Tryd.prog (Instr.makeSlice 80 x38 x38) w fun x39 w => S w ∧ (HK Tryd.prog S (do pure (Next.value (← Instr.build 82 [(0, x33), (1, x39)].toArray))) fun x40 => VK Tryd.prog (Instr.box 82 x40) w fun x41 w => S w ∧ (K (up (up (up (up (up (up (up (up (up (up (up (up ρ 30 (ρ 5)) 31 x31) 32 x32) 33 x33) 34 (ρ 5)) 35 x35) 36 x36) 37 x37) 38 x38) 39 x39) 40 x40) 41 x41) w))
theorem coll_Coll_Copy_R2_q0 (S : World → Prop) (K : Sl → World → Prop) : sxh Tryd.prog S coll_Coll_Copy_R2_ops K [(0, true), (1, true), (2, true), (3, true), (4, true), (5, true), (6, true), (7, true), (8, true), (9, false), (10, true), (11, false)] = coll_Coll_Copy_R2_H0 S K := by kernel_rfl
def coll_Coll_Copy_R2_H1 (S : World → Prop) (K : Sl → World → Prop) (ρ : Sl) (w : World) : Prop :=
  K (up ρ 6 (ρ 41)) w
theorem coll_Coll_Copy_R2_q1 (S : World → Prop) (K : Sl → World → Prop) : sxh Tryd.prog S coll_Coll_Copy_R2_ops K [(12, true)] = coll_Coll_Copy_R2_H1 S K := by kernel_rfl
def coll_Coll_Copy_R2_H (S : World → Prop) (K : Exit → Sl → World → Prop) (ρ : Sl) (w : World) : Prop :=
  coll_Coll_Copy_R2_H0 S (coll_Coll_Copy_R2_H1 S (K .normal)) ρ w
theorem coll_Coll_Copy_R2_steps : planOk Tryd.prog 68 coll_Coll_Copy_R2_ops [(0, true), (1, true), (2, true), (3, true), (4, true), (5, true), (6, true), (7, true), (8, true), (9, false), (10, true), (11, false), (12, true)] (Array.replicate coll_Coll_Copy_R2_ops.size false) = true :=
  by kernel_rfl
theorem coll_Coll_Copy_R2_held {D : List Deferred} (S : World → Prop) {K : Exit → Sl → World → Prop} {ρ : Sl} {w : World} (hS : S { w with drawn := w.drawn + 1 }) (h : coll_Coll_Copy_R2_H S K ρ { w with drawn := w.drawn + 1 }) : W ⟨none, D⟩ Tryd.prog 68 coll_Coll_Copy_R2 K ρ w := by
  have e : coll_Coll_Copy_R2 = .region (idOf coll_Coll_Copy_R2) coll_Coll_Copy_R2_ops true := by kernel_rfl
  have q : sxh Tryd.prog S coll_Coll_Copy_R2_ops (K .normal) [(0, true), (1, true), (2, true), (3, true), (4, true), (5, true), (6, true), (7, true), (8, true), (9, false), (10, true), (11, false), (12, true)] ρ { w with drawn := w.drawn + 1 } = coll_Coll_Copy_R2_H S K ρ { w with drawn := w.drawn + 1 } := by
    show sxh Tryd.prog S coll_Coll_Copy_R2_ops (K .normal) ([(0, true), (1, true), (2, true), (3, true), (4, true), (5, true), (6, true), (7, true), (8, true), (9, false), (10, true), (11, false)] ++ [(12, true)]) ρ { w with drawn := w.drawn + 1 } = _
    rw [sxh_append, coll_Coll_Copy_R2_q1, coll_Coll_Copy_R2_q0]; rfl
  rw [e]
  exact W_held S [(0, true), (1, true), (2, true), (3, true), (4, true), (5, true), (6, true), (7, true), (8, true), (9, false), (10, true), (11, false), (12, true)] (by kernel_rfl) (by kernel_rfl) coll_Coll_Copy_R2_steps (by kernel_rfl) hS (Eq.mpr q h)
noncomputable def coll_Coll_Copy_R3_F (z : At) (K : Exit → Sl → World → Prop) (ρ : Sl) (w : World) : Prop :=
  NK Tryd.prog (ρ 5) w fun x43 w => VK Tryd.prog (Instr.fieldAt 82 x43 1) w fun x44 w => VK Tryd.prog (Instr.loadAt 80 x44) w fun x45 w => IK Tryd.prog .len #[80] 3 [false] [x45] w fun x46 w => W z Tryd.prog 68 (Code.loop coll_Coll_Copy_L4) (blkK 2 (seqK (sx z Tryd.prog 68 coll_Coll_Copy_R5 K) K)) (up (up (up (up (up (up ρ 42 (ρ 5)) 43 x43) 44 x44) 45 x45) 46 x46) 47 (Value.int .i64 0)) w
theorem coll_Coll_Copy_R3_eq (z : At) (K : Exit → Sl → World → Prop) (ρ : Sl) (w : World) : sx z Tryd.prog 68 coll_Coll_Copy_R3 K ρ w = coll_Coll_Copy_R3_F z K ρ w := by kernel_rfl
noncomputable def coll_Coll_Copy_L4_F (z : At) (K : Exit → Sl → World → Prop) (ρ : Sl) (w : World) : Prop :=
  BK Tryd.prog .lss 3 (.tmp 47) (.tmp 46) (ρ 47) (ρ 46) w fun x48 w => CondK x48 (VK Tryd.prog (Instr.indexAt 80 (ρ 45) (ρ 47)) w fun x50 w => VK Tryd.prog (Instr.loadAt 61 x50) w fun x51 w => W z Tryd.prog 68 coll_Coll_Copy_R6 (blkK 3 (seqK (sx z Tryd.prog 68 coll_Coll_Copy_R7 K) K)) (up (up (up (up (up (up ρ 48 x48) 49 (ρ 47)) 50 x50) 51 x51) 7 (ρ 47)) 8 x51) w) (K (.exit 2) (up ρ 48 x48) w)
theorem coll_Coll_Copy_L4_eq (z : At) (K : Exit → Sl → World → Prop) (ρ : Sl) (w : World) : sx z Tryd.prog 68 coll_Coll_Copy_L4 K ρ w = coll_Coll_Copy_L4_F z K ρ w := by kernel_rfl
theorem coll_Coll_Copy_L4_ok : dstOk 68 coll_Coll_Copy_L4 = true := by kernel_rfl
noncomputable def coll_Coll_Copy_R5_F (z : At) (K : Exit → Sl → World → Prop) (ρ : Sl) (w : World) : Prop :=
  NK Tryd.prog (ρ 3) w fun x62 w => VK Tryd.prog (Instr.fieldAt 72 x62 1) w fun x63 w => VK Tryd.prog (Instr.loadAt 70 x63) w fun x64 w => UK Tryd.prog (Instr.mapUpdate 70 x64 (ρ 4) (ρ 6)) w fun _ w => K .normal (up (up (up (up (up (up ρ 61 (ρ 3)) 62 x62) 63 x63) 64 x64) 65 (ρ 4)) 66 (ρ 6)) w
theorem coll_Coll_Copy_R5_eq (z : At) (K : Exit → Sl → World → Prop) (ρ : Sl) (w : World) : sx z Tryd.prog 68 coll_Coll_Copy_R5 K ρ w = coll_Coll_Copy_R5_F z K ρ w := by kernel_rfl
noncomputable def coll_Coll_Copy_R6_ops : Array Oper := opsOf coll_Coll_Copy_R6
def coll_Coll_Copy_R6_H (S : World → Prop) (K : Exit → Sl → World → Prop) (ρ : Sl) (w : World) : Prop :=
  HK Tryd.prog S (nilCk (ρ 6)) fun x53_1 => HK Tryd.prog S (do pure (Next.value (← Instr.fieldAt 82 x53_1 1))) fun x54_1 => HK Tryd.prog S (do pure (Next.value (← Instr.loadAt 80 x54_1))) fun x55_1 => CK Tryd.prog (Value.func (Fn.func 46) #[] #[]) [(ρ 8)] w fun x58_1 w => S w ∧ (HK Tryd.prog S (do pure (Next.value (← Instr.indexAt 80 x55_1 (ρ 7)))) fun x59_1 => UK Tryd.prog (Instr.storeAt 61 x59_1 x58_1) w fun _ w => S w ∧ (K Exit.normal (up (up (up (up (up (up (up (up ρ 52 (ρ 6)) 53 x53_1) 54 x54_1) 55 x55_1) 56 (ρ 7)) 57 (ρ 8)) 58 x58_1) 59 x59_1) w))
theorem coll_Coll_Copy_R6_held {D : List Deferred} (S : World → Prop) {K : Exit → Sl → World → Prop} {ρ : Sl} {w : World} (hS : S { w with drawn := w.drawn + 1 }) (h : coll_Coll_Copy_R6_H S K ρ { w with drawn := w.drawn + 1 }) : W ⟨none, D⟩ Tryd.prog 68 coll_Coll_Copy_R6 K ρ w := by
  have e : coll_Coll_Copy_R6 = .region (idOf coll_Coll_Copy_R6) coll_Coll_Copy_R6_ops true := by kernel_rfl
  have q : sxh Tryd.prog S coll_Coll_Copy_R6_ops (K .normal) [(0, true), (1, true), (2, true), (3, true), (4, true), (5, true), (6, false), (7, true), (8, false)] ρ { w with drawn := w.drawn + 1 } = coll_Coll_Copy_R6_H S K ρ { w with drawn := w.drawn + 1 } := by kernel_rfl
  rw [e]
  exact W_held S [(0, true), (1, true), (2, true), (3, true), (4, true), (5, true), (6, false), (7, true), (8, false)] (by kernel_rfl) (by kernel_rfl) (by kernel_rfl) (by kernel_rfl) hS (Eq.mpr q h)
noncomputable def coll_Coll_Copy_R7_F (z : At) (K : Exit → Sl → World → Prop) (ρ : Sl) (w : World) : Prop :=
  BK Tryd.prog .add 3 (.tmp 47) (.const (Value.int .i64 1)) (ρ 47) (Value.int .i64 1) w fun x60 w => K .normal (up (up ρ 60 x60) 47 x60) w
theorem coll_Coll_Copy_R7_eq (z : At) (K : Exit → Sl → World → Prop) (ρ : Sl) (w : World) : sx z Tryd.prog 68 coll_Coll_Copy_R7 K ρ w = coll_Coll_Copy_R7_F z K ρ w := by kernel_rfl
noncomputable def coll_Coll_Copy_F (a0 : Value) (w : World) (R : Value → World → Prop) : Prop :=
  BK Tryd.prog .eql 24 (.tmp 9) (.const (Value.pointer none)) a0 (Value.pointer none) w fun x10 w => CondK x10 (R (Value.pointer none) w) (CK Tryd.prog (Value.func (Fn.func 34) #[] #[]) [a0] w fun x12 w => CondK x12 (VK Tryd.prog (Instr.build 72 [].toArray) w fun x13 w => VK Tryd.prog (Instr.box 72 x13) w fun x14 w => R x14 w) (NK Tryd.prog a0 w fun x16 w => VK Tryd.prog (Instr.fieldAt 72 x16 0) w fun x17 w => VK Tryd.prog (Instr.loadAt 4 x17) w fun x18 w => CK Tryd.prog (Value.func (Fn.func 11) #[] #[]) [x18] w fun x19 w => NK Tryd.prog a0 w fun x21 w => VK Tryd.prog (Instr.fieldAt 72 x21 1) w fun x22 w => VK Tryd.prog (Instr.loadAt 70 x22) w fun x23 w => VK Tryd.prog (Instr.range 70 x23) w fun x24 w => W fn_ Tryd.prog 68 (Code.loop coll_Coll_Copy_L0) (blkK 0 (seqK (sx fn_ Tryd.prog 68 coll_Coll_Copy_R1 (retK Tryd.prog [ResultVar.tmp 2] R)) (retK Tryd.prog [ResultVar.tmp 2] R))) (up (up (up (up (up (up (up (up (up (up (up (up (up (up (up (up (rho0 [a0]) 2 (Value.pointer none)) 9 a0) 10 x10) 11 a0) 12 x12) 15 a0) 16 x16) 17 x17) 18 x18) 19 x19) 3 x19) 20 a0) 21 x21) 22 x22) 23 x23) 24 x24) w))
theorem coll_Coll_Copy_eq (a0 : Value) (w : World) (R : Value → World → Prop) : sx fn_ Tryd.prog 68 coll_Coll_Copy_b (retK Tryd.prog Tryd.f15.results.toList R) (rho0 [a0]) w = coll_Coll_Copy_F a0 w R := by kernel_rfl
theorem coll_Coll_Copy_calls {a0 : Value} {w : World} {R : Value → World → Prop} (h : coll_Coll_Copy_F a0 w R) : Calls Tryd.prog 15 #[a0] w fun e w' => ∃ v, e = .returned v ∧ R v w' :=
  Go.X.calls_of_sx (n := 68) (c := coll_Coll_Copy_b) Tryd.func15 (by kernel_rfl) (by kernel_rfl) (Nat.le_of_ble_eq_true rfl) (by kernel_rfl) (Eq.mpr (coll_Coll_Copy_eq a0 w R) h)
noncomputable def coll_May_b : Code := (Tryd.f19.body).getD .skip
noncomputable def coll_May_R0 : Code := cAt [1, 0, 0, 1, 1, 1] coll_May_b
noncomputable def coll_May_R1 : Code := cAt [1, 1] coll_May_b
noncomputable def coll_May_R0_F (z : At) (K : Exit → Sl → World → Prop) (ρ : Sl) (w : World) : Prop :=
  CondK (ρ 14) (K .ret (up ρ 4 (Value.bool false)) w) (K .normal ρ w)
theorem coll_May_R0_eq (z : At) (K : Exit → Sl → World → Prop) (ρ : Sl) (w : World) : sx z Tryd.prog 50 coll_May_R0 K ρ w = coll_May_R0_F z K ρ w := by kernel_rfl
noncomputable def coll_May_R1_F (z : At) (K : Exit → Sl → World → Prop) (ρ : Sl) (w : World) : Prop :=
  VK Tryd.prog (Instr.fieldAt 34 (ρ 3) 2) w fun x37 w => VK Tryd.prog (Instr.loadAt 5 x37) w fun x38 w => BK Tryd.prog .leq 5 (.tmp 38) (.const (Value.int .u8 2)) x38 (Value.int .u8 2) w fun x39 w => VG Tryd.prog x39 true (Instr.fieldAt 34 (ρ 3) 2) w fun x41 w => VG Tryd.prog x39 true (Instr.loadAt 5 x41) w fun x42 w => BG Tryd.prog x39 true .eql 5 (.tmp 42) (.const (Value.int .u8 0)) x42 (Value.int .u8 0) w fun x43 w => MG Tryd.prog x39 true x43 w fun x44 w => VG Tryd.prog x44 false (Instr.fieldAt 34 (ρ 3) 0) w fun x45 w => VG Tryd.prog x44 false (Instr.loadAt 5 x45) w fun x46 w => CG Tryd.prog x44 false (Value.func (Fn.func 49) #[] #[]) [x46] w fun x47 w => PG Tryd.prog x39 true x44 (Value.bool true) x47 w fun x48 w => PK Tryd.prog x39 x48 (Value.bool false) w fun x49 w => K .ret (up (up (up (up (up (up (up (up (up (up (up (up (up (up ρ 37 x37) 38 x38) 39 x39) 40 x39) 41 x41) 42 x42) 43 x43) 44 x44) 45 x45) 46 x46) 47 x47) 48 x48) 49 x49) 4 x49) w
theorem coll_May_R1_eq (z : At) (K : Exit → Sl → World → Prop) (ρ : Sl) (w : World) : sx z Tryd.prog 50 coll_May_R1 K ρ w = coll_May_R1_F z K ρ w := by kernel_rfl
noncomputable def coll_May_F (a0 a1 : Value) (w : World) (R : Value → World → Prop) : Prop :=
  VK Tryd.prog (Instr.box 32 a0) w fun x2 w => VK Tryd.prog (Instr.box 34 a1) w fun x3 w => VK Tryd.prog (Instr.fieldAt 34 x3 0) w fun x6 w => VK Tryd.prog (Instr.loadAt 5 x6) w fun x7 w => BK Tryd.prog .lss 5 (.tmp 7) (.const (Value.int .u8 15)) x7 (Value.int .u8 15) w fun x8 w => VG Tryd.prog x8 false (Instr.fieldAt 34 x3 0) w fun x10 w => VG Tryd.prog x8 false (Instr.loadAt 5 x10) w fun x11 w => BG Tryd.prog x8 false .gtr 5 (.tmp 11) (.const (Value.int .u8 21)) x11 (Value.int .u8 21) w fun x12 w => PK Tryd.prog x8 (Value.bool true) x12 w fun x13 w => CondK x13 (R (Value.bool false) w) (VK Tryd.prog (Instr.fieldAt 34 x3 1) w fun x15 w => VK Tryd.prog (Instr.loadAt 3 x15) w fun x16 w => BK Tryd.prog .lss 3 (.tmp 16) (.const (Value.int .i64 0)) x16 (Value.int .i64 0) w fun x17 w => VG Tryd.prog x17 false (Instr.fieldAt 34 x3 1) w fun x19 w => VG Tryd.prog x17 false (Instr.loadAt 3 x19) w fun x20 w => VG Tryd.prog x17 false (Instr.fieldAt 32 x2 1) w fun x21 w => VG Tryd.prog x17 false (Instr.loadAt 30 x21) w fun x22 w => IG Tryd.prog x17 false .len #[30] 3 [false] [x22] w fun x23 w => BG Tryd.prog x17 false .geq 3 (.tmp 20) (.tmp 23) x20 x23 w fun x24 w => PK Tryd.prog x17 (Value.bool true) x24 w fun x25 w => VG Tryd.prog x25 false (Instr.fieldAt 34 x3 1) w fun x27 w => VG Tryd.prog x25 false (Instr.loadAt 3 x27) w fun x28 w => BG Tryd.prog x25 false .gtr 3 (.tmp 28) (.const (Value.int .i64 0)) x28 (Value.int .i64 0) w fun x29 w => MG Tryd.prog x25 false x29 w fun x30 w => VG Tryd.prog x30 true (Instr.fieldAt 34 x3 0) w fun x31 w => VG Tryd.prog x30 true (Instr.loadAt 5 x31) w fun x32 w => CG Tryd.prog x30 true (Value.func (Fn.func 48) #[] #[]) [x32] w fun x33 w => VG Tryd.prog x30 true (Op.unary UnOp.not x33) w fun x34 w => PG Tryd.prog x25 false x30 x34 (Value.bool false) w fun x35 w => PK Tryd.prog x25 (Value.bool true) x35 w fun x36 w => sx fn_ Tryd.prog 50 coll_May_R0 (blkK 0 (seqK (sx fn_ Tryd.prog 50 coll_May_R1 (retK Tryd.prog [ResultVar.tmp 4] R)) (retK Tryd.prog [ResultVar.tmp 4] R))) (up (up (up (up (up (up (up (up (up (up (up (up (up (up (up (up (up (up (up (up (up (up (up (up (up (up (up (up (up (up (up (up (up (up (up (rho0 [a0, a1]) 2 x2) 3 x3) 4 (Value.bool false)) 6 x6) 7 x7) 8 x8) 9 x8) 10 x10) 11 x11) 12 x12) 13 x13) 5 x13) 15 x15) 16 x16) 17 x17) 18 x17) 19 x19) 20 x20) 21 x21) 22 x22) 23 x23) 24 x24) 25 x25) 26 x25) 27 x27) 28 x28) 29 x29) 30 x30) 31 x31) 32 x32) 33 x33) 34 x34) 35 x35) 36 x36) 14 x36) w)
theorem coll_May_eq (a0 a1 : Value) (w : World) (R : Value → World → Prop) : sx fn_ Tryd.prog 50 coll_May_b (retK Tryd.prog Tryd.f19.results.toList R) (rho0 [a0, a1]) w = coll_May_F a0 a1 w R := by kernel_rfl
theorem coll_May_calls {a0 a1 : Value} {w : World} {R : Value → World → Prop} (h : coll_May_F a0 a1 w R) : Calls Tryd.prog 19 #[a0, a1] w fun e w' => ∃ v, e = .returned v ∧ R v w' :=
  Go.X.calls_of_sx (n := 50) (c := coll_May_b) Tryd.func19 (by kernel_rfl) (by kernel_rfl) (Nat.le_of_ble_eq_true rfl) (by kernel_rfl) (Eq.mpr (coll_May_eq a0 a1 w R) h)
noncomputable def coll_Fit_b : Code := (Tryd.f21.body).getD .skip
noncomputable def coll_Fit_F (a0 a1 : Value) (w : World) (R : Value → World → Prop) : Prop :=
  VK Tryd.prog (Instr.box 34 a0) w fun x2 w => VK Tryd.prog (Instr.box 34 a1) w fun x3 w => VK Tryd.prog (Instr.fieldAt 34 x2 0) w fun x5 w => VK Tryd.prog (Instr.loadAt 5 x5) w fun x6 w => VK Tryd.prog (Instr.fieldAt 34 x3 0) w fun x7 w => VK Tryd.prog (Instr.loadAt 5 x7) w fun x8 w => BK Tryd.prog .eql 5 (.tmp 6) (.tmp 8) x6 x8 w fun x9 w => VG Tryd.prog x9 true (Instr.fieldAt 34 x2 1) w fun x11 w => VG Tryd.prog x9 true (Instr.loadAt 3 x11) w fun x12 w => VG Tryd.prog x9 true (Instr.fieldAt 34 x3 1) w fun x13 w => VG Tryd.prog x9 true (Instr.loadAt 3 x13) w fun x14 w => BG Tryd.prog x9 true .eql 3 (.tmp 12) (.tmp 14) x12 x14 w fun x15 w => PK Tryd.prog x9 x15 (Value.bool false) w fun x16 w => VG Tryd.prog x16 true (Instr.fieldAt 34 x2 2) w fun x18 w => VG Tryd.prog x16 true (Instr.loadAt 5 x18) w fun x19 w => VG Tryd.prog x16 true (Instr.fieldAt 34 x3 2) w fun x20 w => VG Tryd.prog x16 true (Instr.loadAt 5 x20) w fun x21 w => BG Tryd.prog x16 true .eql 5 (.tmp 19) (.tmp 21) x19 x21 w fun x22 w => PK Tryd.prog x16 x22 (Value.bool false) w fun x23 w => R x23 w
theorem coll_Fit_eq (a0 a1 : Value) (w : World) (R : Value → World → Prop) : sx fn_ Tryd.prog 24 coll_Fit_b (retK Tryd.prog Tryd.f21.results.toList R) (rho0 [a0, a1]) w = coll_Fit_F a0 a1 w R := by kernel_rfl
theorem coll_Fit_calls {a0 a1 : Value} {w : World} {R : Value → World → Prop} (h : coll_Fit_F a0 a1 w R) : Calls Tryd.prog 21 #[a0, a1] w fun e w' => ∃ v, e = .returned v ∧ R v w' :=
  Go.X.calls_of_sx (n := 24) (c := coll_Fit_b) Tryd.func21 (by kernel_rfl) (by kernel_rfl) (Nat.le_of_ble_eq_true rfl) (by kernel_rfl) (Eq.mpr (coll_Fit_eq a0 a1 w R) h)
noncomputable def coll_Coll_Odd_b : Code := (Tryd.f24.body).getD .skip
noncomputable def coll_Coll_Odd_L0 : Code := cAt [1, 1, 1, 0, 1, 0, 0] coll_Coll_Odd_b
noncomputable def coll_Coll_Odd_R1 : Code := cAt [1, 1, 1, 1] coll_Coll_Odd_b
noncomputable def coll_Coll_Odd_L2 : Code := cAt [1, 1, 1, 0, 1, 0, 0, 1, 1, 0, 0, 1, 1, 1, 0, 1, 0, 0] coll_Coll_Odd_b
noncomputable def coll_Coll_Odd_R3 : Code := cAt [1, 1, 1, 0, 1, 0, 0, 1, 1, 0, 0, 1, 1, 1, 1] coll_Coll_Odd_b
noncomputable def coll_Coll_Odd_R4 : Code := cAt [1, 1, 1, 0, 1, 0, 0, 1, 1, 1] coll_Coll_Odd_b
noncomputable def coll_Coll_Odd_L5 : Code := cAt [1, 1, 1, 0, 1, 0, 0, 1, 1, 0, 0, 1, 1, 1, 1, 1, 0, 0] coll_Coll_Odd_b
noncomputable def coll_Coll_Odd_R6 : Code := cAt [1, 1, 1, 0, 1, 0, 0, 1, 1, 0, 0, 1, 1, 1, 1, 1, 0, 0, 1, 1, 1] coll_Coll_Odd_b
noncomputable def coll_Coll_Odd_L0_F (z : At) (K : Exit → Sl → World → Prop) (ρ : Sl) (w : World) : Prop :=
  BK Tryd.prog .lss 3 (.tmp 20) (.tmp 19) (ρ 20) (ρ 19) w fun x21 w => CondK x21 (VK Tryd.prog (Instr.indexAt 50 (ρ 18) (ρ 20)) w fun x22 w => VK Tryd.prog (Instr.loadAt 9 x22) w fun x23 w => NK Tryd.prog (ρ 0) w fun x25 w => VK Tryd.prog (Instr.fieldAt 72 x25 1) w fun x26 w => VK Tryd.prog (Instr.loadAt 70 x26) w fun x27 w => VK Tryd.prog (Instr.lookup 70 x27 x23 false) w fun x29 w => NK Tryd.prog x29 w fun x31 w => VK Tryd.prog (Instr.fieldAt 82 x31 1) w fun x32 w => VK Tryd.prog (Instr.loadAt 80 x32) w fun x33 w => IK Tryd.prog .len #[80] 3 [false] [x33] w fun x34 w => W z Tryd.prog 62 (Code.loop coll_Coll_Odd_L2) (blkK 2 (seqK (sx z Tryd.prog 62 coll_Coll_Odd_R3 (blkK 1 (seqK (sx z Tryd.prog 62 coll_Coll_Odd_R4 K) K))) (blkK 1 (seqK (sx z Tryd.prog 62 coll_Coll_Odd_R4 K) K)))) (up (up (up (up (up (up (up (up (up (up (up (up (up (up (up (up (up (up ρ 21 x21) 22 x22) 23 x23) 5 x23) 24 (ρ 0)) 25 x25) 26 x26) 27 x27) 28 x23) 29 x29) 6 x29) 7 (Value.int .i64 0)) 30 x29) 31 x31) 32 x32) 33 x33) 34 x34) 35 (Value.int .i64 0)) w) (K (.exit 0) (up ρ 21 x21) w)
theorem coll_Coll_Odd_L0_eq (z : At) (K : Exit → Sl → World → Prop) (ρ : Sl) (w : World) : sx z Tryd.prog 62 coll_Coll_Odd_L0 K ρ w = coll_Coll_Odd_L0_F z K ρ w := by kernel_rfl
theorem coll_Coll_Odd_L0_ok : dstOk 62 coll_Coll_Odd_L0 = true := by kernel_rfl
noncomputable def coll_Coll_Odd_R1_F (z : At) (K : Exit → Sl → World → Prop) (ρ : Sl) (w : World) : Prop :=
  K .ret (up (up ρ 61 (ρ 3)) 2 (ρ 3)) w
theorem coll_Coll_Odd_R1_eq (z : At) (K : Exit → Sl → World → Prop) (ρ : Sl) (w : World) : sx z Tryd.prog 62 coll_Coll_Odd_R1 K ρ w = coll_Coll_Odd_R1_F z K ρ w := by kernel_rfl
noncomputable def coll_Coll_Odd_L2_F (z : At) (K : Exit → Sl → World → Prop) (ρ : Sl) (w : World) : Prop :=
  BK Tryd.prog .lss 3 (.tmp 35) (.tmp 34) (ρ 35) (ρ 34) w fun x36 w => CondK x36 (VK Tryd.prog (Instr.indexAt 80 (ρ 33) (ρ 35)) w fun x37 w => VK Tryd.prog (Instr.loadAt 61 x37) w fun x38 w => IK Tryd.prog .len #[61] 3 [false] [x38] w fun x41 w => IK Tryd.prog .max #[3, 3] 3 [false, false] [(ρ 7), x41] w fun x42 w => BK Tryd.prog .add 3 (.tmp 35) (.const (Value.int .i64 1)) (ρ 35) (Value.int .i64 1) w fun x43 w => K .normal (up (up (up (up (up (up (up (up (up (up (up ρ 36 x36) 37 x37) 38 x38) 9 x38) 39 (ρ 7)) 40 x38) 41 x41) 42 x42) 7 x42) 43 x43) 35 x43) w) (K (.exit 2) (up ρ 36 x36) w)
theorem coll_Coll_Odd_L2_eq (z : At) (K : Exit → Sl → World → Prop) (ρ : Sl) (w : World) : sx z Tryd.prog 62 coll_Coll_Odd_L2 K ρ w = coll_Coll_Odd_L2_F z K ρ w := by kernel_rfl
theorem coll_Coll_Odd_L2_ok : dstOk 62 coll_Coll_Odd_L2 = true := by kernel_rfl
noncomputable def coll_Coll_Odd_R3_F (z : At) (K : Exit → Sl → World → Prop) (ρ : Sl) (w : World) : Prop :=
  W z Tryd.prog 62 (Code.loop coll_Coll_Odd_L5) (blkK 4 K) (up (up ρ 44 (ρ 7)) 45 (Value.int .i64 0)) w
theorem coll_Coll_Odd_R3_eq (z : At) (K : Exit → Sl → World → Prop) (ρ : Sl) (w : World) : sx z Tryd.prog 62 coll_Coll_Odd_R3 K ρ w = coll_Coll_Odd_R3_F z K ρ w := by kernel_rfl
noncomputable def coll_Coll_Odd_R4_F (z : At) (K : Exit → Sl → World → Prop) (ρ : Sl) (w : World) : Prop :=
  BK Tryd.prog .add 3 (.tmp 20) (.const (Value.int .i64 1)) (ρ 20) (Value.int .i64 1) w fun x60 w => K .normal (up (up ρ 60 x60) 20 x60) w
theorem coll_Coll_Odd_R4_eq (z : At) (K : Exit → Sl → World → Prop) (ρ : Sl) (w : World) : sx z Tryd.prog 62 coll_Coll_Odd_R4 K ρ w = coll_Coll_Odd_R4_F z K ρ w := by kernel_rfl
noncomputable def coll_Coll_Odd_L5_F (z : At) (K : Exit → Sl → World → Prop) (ρ : Sl) (w : World) : Prop :=
  BK Tryd.prog .lss 3 (.tmp 45) (.tmp 44) (ρ 45) (ρ 44) w fun x46 w => CondK x46 (CK Tryd.prog (Value.func (Fn.func 52) #[] #[]) [(ρ 6), (ρ 45)] w fun x50 w => CondK x50 (BK Tryd.prog .add 9 (.tmp 52) (.const (Value.string { data := #[46] })) (ρ 5) (Value.string { data := #[46] }) w fun x53 w => CK Tryd.prog (Value.func (Fn.func 53) #[] #[]) [(ρ 45)] w fun x55 w => BK Tryd.prog .add 9 (.tmp 53) (.tmp 55) x53 x55 w fun x56 w => VK Tryd.prog (Instr.buildSlice 50 1 [(0, x56)].toArray) w fun x57 w => IK Tryd.prog .append #[50, 50] 50 [false, false] [(ρ 3), x57] w fun x58 w => sx z Tryd.prog 62 coll_Coll_Odd_R6 K (up (up (up (up (up (up (up (up (up (up (up (up (up (up (up ρ 46 x46) 47 (ρ 45)) 10 (ρ 45)) 48 (ρ 6)) 49 (ρ 45)) 50 x50) 51 (ρ 3)) 52 (ρ 5)) 53 x53) 54 (ρ 45)) 55 x55) 56 x56) 57 x57) 58 x58) 3 x58) w) (sx z Tryd.prog 62 coll_Coll_Odd_R6 K (up (up (up (up (up (up ρ 46 x46) 47 (ρ 45)) 10 (ρ 45)) 48 (ρ 6)) 49 (ρ 45)) 50 x50) w)) (K (.exit 4) (up ρ 46 x46) w)
theorem coll_Coll_Odd_L5_eq (z : At) (K : Exit → Sl → World → Prop) (ρ : Sl) (w : World) : sx z Tryd.prog 62 coll_Coll_Odd_L5 K ρ w = coll_Coll_Odd_L5_F z K ρ w := by kernel_rfl
theorem coll_Coll_Odd_L5_ok : dstOk 62 coll_Coll_Odd_L5 = true := by kernel_rfl
noncomputable def coll_Coll_Odd_R6_F (z : At) (K : Exit → Sl → World → Prop) (ρ : Sl) (w : World) : Prop :=
  BK Tryd.prog .add 3 (.tmp 45) (.const (Value.int .i64 1)) (ρ 45) (Value.int .i64 1) w fun x59 w => K .normal (up (up ρ 59 x59) 45 x59) w
theorem coll_Coll_Odd_R6_eq (z : At) (K : Exit → Sl → World → Prop) (ρ : Sl) (w : World) : sx z Tryd.prog 62 coll_Coll_Odd_R6 K ρ w = coll_Coll_Odd_R6_F z K ρ w := by kernel_rfl
noncomputable def coll_Coll_Odd_F (a0 : Value) (w : World) (R : Value → World → Prop) : Prop :=
  CK Tryd.prog (Value.func (Fn.func 34) #[] #[]) [a0] w fun x12 w => CondK x12 (R (Value.slice none 0 0) w) (NK Tryd.prog a0 w fun x14 w => VK Tryd.prog (Instr.fieldAt 72 x14 1) w fun x15 w => VK Tryd.prog (Instr.loadAt 70 x15) w fun x16 w => CK Tryd.prog (Value.func (Fn.func 51) #[] #[]) [x16] w fun x17 w => CK Tryd.prog (Value.func (Fn.func 50) #[] #[]) [x17] w fun x18 w => IK Tryd.prog .len #[50] 3 [false] [x18] w fun x19 w => W fn_ Tryd.prog 62 (Code.loop coll_Coll_Odd_L0) (blkK 0 (seqK (sx fn_ Tryd.prog 62 coll_Coll_Odd_R1 (retK Tryd.prog [ResultVar.tmp 2] R)) (retK Tryd.prog [ResultVar.tmp 2] R))) (up (up (up (up (up (up (up (up (up (up (up (up (rho0 [a0]) 2 (Value.slice none 0 0)) 3 (Value.slice none 0 0)) 11 a0) 12 x12) 13 a0) 14 x14) 15 x15) 16 x16) 17 x17) 18 x18) 19 x19) 20 (Value.int .i64 0)) w)
theorem coll_Coll_Odd_eq (a0 : Value) (w : World) (R : Value → World → Prop) : sx fn_ Tryd.prog 62 coll_Coll_Odd_b (retK Tryd.prog Tryd.f24.results.toList R) (rho0 [a0]) w = coll_Coll_Odd_F a0 w R := by kernel_rfl
theorem coll_Coll_Odd_calls {a0 : Value} {w : World} {R : Value → World → Prop} (h : coll_Coll_Odd_F a0 w R) : Calls Tryd.prog 24 #[a0] w fun e w' => ∃ v, e = .returned v ∧ R v w' :=
  Go.X.calls_of_sx (n := 62) (c := coll_Coll_Odd_b) Tryd.func24 (by kernel_rfl) (by kernel_rfl) (Nat.le_of_ble_eq_true rfl) (by kernel_rfl) (Eq.mpr (coll_Coll_Odd_eq a0 w R) h)
noncomputable def coll_Coll_Told_b : Code := (Tryd.f27.body).getD .skip
noncomputable def coll_Coll_Told_R0 : Code := cAt [1, 1, 1, 1] coll_Coll_Told_b
noncomputable def coll_Coll_Told_R1 : Code := cAt [1, 1, 1, 1, 0] coll_Coll_Told_b
noncomputable def coll_Coll_Told_R2 : Code := cAt [1, 1, 1, 1, 1] coll_Coll_Told_b
noncomputable def coll_Coll_Told_R0_F (z : At) (K : Exit → Sl → World → Prop) (ρ : Sl) (w : World) : Prop :=
  W z Tryd.prog 54 coll_Coll_Told_R1 (seqK (sx z Tryd.prog 54 coll_Coll_Told_R2 K) K) ρ w
theorem coll_Coll_Told_R0_eq (z : At) (K : Exit → Sl → World → Prop) (ρ : Sl) (w : World) : sx z Tryd.prog 54 coll_Coll_Told_R0 K ρ w = coll_Coll_Told_R0_F z K ρ w := by kernel_rfl
noncomputable def coll_Coll_Told_R1_ops : Array Oper := opsOf coll_Coll_Told_R1
def coll_Coll_Told_R1_H (S : World → Prop) (K : Exit → Sl → World → Prop) (ρ : Sl) (w : World) : Prop :=
  HK Tryd.prog S (do pure (Next.value (← Instr.fieldAt 34 (ρ 13) 0))) fun x42 => HK Tryd.prog S (do pure (Next.value (← Instr.loadAt 5 x42))) fun x43 => HK Tryd.prog S (do pure (Next.value (← (do eqGuard BinOp.sub 5 (Operand.tmp 43) (Operand.const (Value.int IntKind.u8 15)) x43 (Value.int IntKind.u8 15); binOp BinOp.sub 5 x43 (Value.int IntKind.u8 15))))) fun x44 => HK Tryd.prog S (do pure (Next.value (← Instr.loadAt 34 (ρ 13)))) fun x50 => HK Tryd.prog S (do pure (Next.value (← Instr.build 110 [(0, (ρ 10)), (1, (ρ 11)), (2, (ρ 3)), (3, x50), (4, (ρ 2))].toArray))) fun x52 => CK Tryd.prog (Value.func (Fn.func 59) #[] #[]) [] w fun x41 w => S w ∧ (HK Tryd.prog S (do pure (Next.value (← Instr.index 107 x41 x44))) fun x45 => HK Tryd.prog S (do pure (Next.value (← Instr.field 106 x45 0))) fun x46 => FnL Tryd.prog x46 ∧ (CK Tryd.prog x46 [x52] w fun x53 w => S w ∧ (UK Tryd.prog (Instr.storeAt 57 (ρ 8) x53) w fun _ w => S w ∧ (K Exit.normal (up (up (up (up (up (up (up (up (up (up (up (up (up (up ρ 42 x42) 43 x43) 44 x44) 47 (ρ 10)) 48 (ρ 11)) 49 (ρ 3)) 50 x50) 51 (ρ 2)) 52 x52) 41 x41) 45 x45) 46 x46) 53 x53) 9 (Value.bool true)) w))))
theorem coll_Coll_Told_R1_held {D : List Deferred} (S : World → Prop) {K : Exit → Sl → World → Prop} {ρ : Sl} {w : World} (hS : S { w with drawn := w.drawn + 1 }) (h : coll_Coll_Told_R1_H S K ρ { w with drawn := w.drawn + 1 }) : W ⟨none, D⟩ Tryd.prog 54 coll_Coll_Told_R1 K ρ w := by
  have e : coll_Coll_Told_R1 = .region (idOf coll_Coll_Told_R1) coll_Coll_Told_R1_ops true := by kernel_rfl
  have q : sxd Tryd.prog S coll_Coll_Told_R1_ops (K .normal) (Pd.take 1 (Pd.take 2 (Pd.take 3 (Pd.take 6 (Pd.take 7 (Pd.take 8 (Pd.take 9 (Pd.take 10 (Pd.take 11 (Pd.only false 0 (Pd.take 4 (Pd.take 5 (Pd.only true 12 (Pd.only false 13 (Pd.take 14 Pd.done))))))))))))))) ρ { w with drawn := w.drawn + 1 } = coll_Coll_Told_R1_H S K ρ { w with drawn := w.drawn + 1 } := by kernel_rfl
  rw [e]
  exact W_pland S (Pd.take 1 (Pd.take 2 (Pd.take 3 (Pd.take 6 (Pd.take 7 (Pd.take 8 (Pd.take 9 (Pd.take 10 (Pd.take 11 (Pd.only false 0 (Pd.take 4 (Pd.take 5 (Pd.only true 12 (Pd.only false 13 (Pd.take 14 Pd.done))))))))))))))) (by kernel_rfl) (by kernel_rfl) (by kernel_rfl) (by kernel_rfl) hS (Eq.mpr q h)
noncomputable def coll_Coll_Told_R2_F (z : At) (K : Exit → Sl → World → Prop) (ρ : Sl) (w : World) : Prop :=
  K .ret ρ w
theorem coll_Coll_Told_R2_eq (z : At) (K : Exit → Sl → World → Prop) (ρ : Sl) (w : World) : sx z Tryd.prog 54 coll_Coll_Told_R2 K ρ w = coll_Coll_Told_R2_F z K ρ w := by kernel_rfl
noncomputable def coll_Coll_Told_F (a0 a1 a2 a3 : Value) (w : World) (R : Value → World → Prop) : Prop :=
  VK Tryd.prog (Instr.alloc 57 true (.tuple #[])) w fun x8 w => CK Tryd.prog (Value.func (Fn.func 47) #[] #[]) [a0, a1, a2] w fun x19 w => VK Tryd.prog (Instr.extract x19 0) w fun x20 w => VK Tryd.prog (Instr.extract x19 1) w fun x21 w => VK Tryd.prog (Instr.extract x19 2) w fun x22 w => VK Tryd.prog (Op.unary UnOp.not x22) w fun x24 w => MG Tryd.prog x24 false a0 w fun x26 w => MG Tryd.prog x24 false x20 w fun x27 w => MG Tryd.prog x24 false x21 w fun x28 w => MG Tryd.prog x24 false a3 w fun x29 w => CG Tryd.prog x24 false (Value.func (Fn.func 57) #[] #[]) [x26, x27, x28, x29] w fun x30 w => VG Tryd.prog x24 false (Op.unary UnOp.not x30) w fun x31 w => PK Tryd.prog x24 (Value.bool true) x31 w fun x32 w => CondK x32 (VK Tryd.prog (Instr.build 57 [].toArray) w fun x33 w => UK Tryd.prog (Instr.storeAt 57 x8 x33) w fun _ w => ∃ x8_1, (do loadVar 57 (← asAddr x8) : Sem Value).run Tryd.prog w = .ok x8_1 w ∧ R (Value.tuple #[x8_1, (Value.bool false)]) w) (CK Tryd.prog (Value.func (Fn.func 58) #[] #[]) [x20, x21, a3] w fun x38 w => VK Tryd.prog (Instr.extract x38 0) w fun x39 w => VK Tryd.prog (Instr.extract x38 1) w fun x40 w => VK Tryd.prog (Instr.alloc 34 true (.tuple #[])) w fun x13 w => UK Tryd.prog (Instr.storeAt 34 x13 x39) w fun _ w => sx fn_ Tryd.prog 54 coll_Coll_Told_R0 (retK Tryd.prog [ResultVar.cell 8 57, ResultVar.tmp 9] R) (up (up (up (up (up (up (up (up (up (up (up (up (up (up (up (up (up (up (up (up (up (up (up (up (up (up (up (up (up (up (up (up (rho0 [a0, a1, a2, a3]) 8 x8) 9 (Value.bool false)) 16 a0) 17 a1) 18 a2) 19 x19) 15 x19) 20 x20) 21 x21) 22 x22) 10 x20) 11 x21) 12 x22) 23 x22) 24 x24) 25 x24) 26 x26) 27 x27) 28 x28) 29 x29) 30 x30) 31 x31) 32 x32) 35 x20) 36 x21) 37 a3) 38 x38) 34 x38) 39 x39) 40 x40) 13 x13) 14 x40) w)
theorem coll_Coll_Told_eq (a0 a1 a2 a3 : Value) (w : World) (R : Value → World → Prop) : sx fn_ Tryd.prog 54 coll_Coll_Told_b (retK Tryd.prog Tryd.f27.results.toList R) (rho0 [a0, a1, a2, a3]) w = coll_Coll_Told_F a0 a1 a2 a3 w R := by kernel_rfl
theorem coll_Coll_Told_calls {a0 a1 a2 a3 : Value} {w : World} {R : Value → World → Prop} (h : coll_Coll_Told_F a0 a1 a2 a3 w R) : Calls Tryd.prog 27 #[a0, a1, a2, a3] w fun e w' => ∃ v, e = .returned v ∧ R v w' :=
  Go.X.calls_of_sx (n := 54) (c := coll_Coll_Told_b) Tryd.func27 (by kernel_rfl) (by kernel_rfl) (Nat.le_of_ble_eq_true rfl) (by kernel_rfl) (Eq.mpr (coll_Coll_Told_eq a0 a1 a2 a3 w R) h)
noncomputable def coll_Coll_Over_b : Code := (Tryd.f31.body).getD .skip
noncomputable def coll_Coll_Over_F (a0 a1 a2 a3 : Value) (w : World) (R : Value → World → Prop) : Prop :=
  CK Tryd.prog (Value.func (Fn.func 47) #[] #[]) [a0, a1, a2] w fun x16 w => VK Tryd.prog (Instr.extract x16 0) w fun x17 w => VK Tryd.prog (Instr.extract x16 1) w fun x18 w => VK Tryd.prog (Instr.extract x16 2) w fun x19 w => MG Tryd.prog x19 true a0 w fun x22 w => MG Tryd.prog x19 true x17 w fun x23 w => MG Tryd.prog x19 true x18 w fun x24 w => MG Tryd.prog x19 true a3 w fun x25 w => CG Tryd.prog x19 true (Value.func (Fn.func 57) #[] #[]) [x22, x23, x24, x25] w fun x26 w => PK Tryd.prog x19 x26 (Value.bool false) w fun x27 w => R x27 w
theorem coll_Coll_Over_eq (a0 a1 a2 a3 : Value) (w : World) (R : Value → World → Prop) : sx fn_ Tryd.prog 28 coll_Coll_Over_b (retK Tryd.prog Tryd.f31.results.toList R) (rho0 [a0, a1, a2, a3]) w = coll_Coll_Over_F a0 a1 a2 a3 w R := by kernel_rfl
theorem coll_Coll_Over_calls {a0 a1 a2 a3 : Value} {w : World} {R : Value → World → Prop} (h : coll_Coll_Over_F a0 a1 a2 a3 w R) : Calls Tryd.prog 31 #[a0, a1, a2, a3] w fun e w' => ∃ v, e = .returned v ∧ R v w' :=
  Go.X.calls_of_sx (n := 28) (c := coll_Coll_Over_b) Tryd.func31 (by kernel_rfl) (by kernel_rfl) (Nat.le_of_ble_eq_true rfl) (by kernel_rfl) (Eq.mpr (coll_Coll_Over_eq a0 a1 a2 a3 w R) h)
noncomputable def coll_Coll_none_b : Code := (Tryd.f34.body).getD .skip
noncomputable def coll_Coll_none_F (a0 : Value) (w : World) (R : Value → World → Prop) : Prop :=
  BK Tryd.prog .eql 24 (.tmp 3) (.const (Value.pointer none)) a0 (Value.pointer none) w fun x4 w => MG Tryd.prog x4 false a0 w fun x6 w => NG Tryd.prog x4 false x6 w fun x7 w => VG Tryd.prog x4 false (Instr.fieldAt 72 x7 1) w fun x8 w => VG Tryd.prog x4 false (Instr.loadAt 70 x8) w fun x9 w => BG Tryd.prog x4 false .eql 70 (.tmp 9) (.const (Value.map none)) x9 (Value.map none) w fun x10 w => PK Tryd.prog x4 (Value.bool true) x10 w fun x11 w => R x11 w
theorem coll_Coll_none_eq (a0 : Value) (w : World) (R : Value → World → Prop) : sx fn_ Tryd.prog 12 coll_Coll_none_b (retK Tryd.prog Tryd.f34.results.toList R) (rho0 [a0]) w = coll_Coll_none_F a0 w R := by kernel_rfl
theorem coll_Coll_none_calls {a0 : Value} {w : World} {R : Value → World → Prop} (h : coll_Coll_none_F a0 w R) : Calls Tryd.prog 34 #[a0] w fun e w' => ∃ v, e = .returned v ∧ R v w' :=
  Go.X.calls_of_sx (n := 12) (c := coll_Coll_none_b) Tryd.func34 (by kernel_rfl) (by kernel_rfl) (Nat.le_of_ble_eq_true rfl) (by kernel_rfl) (Eq.mpr (coll_Coll_none_eq a0 w R) h)
noncomputable def group_Number_b : Code := (Tryd.f35.body).getD .skip
noncomputable def group_Number_F (a0 a1 : Value) (w : World) (R : Value → World → Prop) : Prop :=
  VK Tryd.prog (Instr.box 32 a0) w fun x2 w => VK Tryd.prog (Instr.fieldAt 32 x2 1) w fun x7 w => VK Tryd.prog (Instr.loadAt 30 x7) w fun x8 w => CK Tryd.prog (Value.func (Fn.func 61) #[] #[]) [x8, a1] w fun x10 w => IK Tryd.prog .max #[3, 3] 3 [false, true] [x10, (Value.int .i64 0)] w fun x12 w => BK Tryd.prog .geq 3 (.tmp 13) (.const (Value.int .i64 0)) x10 (Value.int .i64 0) w fun x14 w => R (Value.tuple #[x12, x14]) w
theorem group_Number_eq (a0 a1 : Value) (w : World) (R : Value → World → Prop) : sx fn_ Tryd.prog 15 group_Number_b (retK Tryd.prog Tryd.f35.results.toList R) (rho0 [a0, a1]) w = group_Number_F a0 a1 w R := by kernel_rfl
theorem group_Number_calls {a0 a1 : Value} {w : World} {R : Value → World → Prop} (h : group_Number_F a0 a1 w R) : Calls Tryd.prog 35 #[a0, a1] w fun e w' => ∃ v, e = .returned v ∧ R v w' :=
  Go.X.calls_of_sx (n := 15) (c := group_Number_b) Tryd.func35 (by kernel_rfl) (by kernel_rfl) (Nat.le_of_ble_eq_true rfl) (by kernel_rfl) (Eq.mpr (group_Number_eq a0 a1 w R) h)
noncomputable def group_May_b : Code := (Tryd.f36.body).getD .skip
noncomputable def group_May_L0 : Code := cAt [1, 1, 0, 1, 0, 0] group_May_b
noncomputable def group_May_R1 : Code := cAt [1, 1, 1] group_May_b
noncomputable def group_May_L0_F (z : At) (K : Exit → Sl → World → Prop) (ρ : Sl) (w : World) : Prop :=
  BK Tryd.prog .lss 3 (.tmp 9) (.tmp 8) (ρ 9) (ρ 8) w fun x10 w => CondK x10 (VK Tryd.prog (Instr.indexAt 30 (ρ 7) (ρ 9)) w fun x11 w => VK Tryd.prog (Instr.loadAt 3 x11) w fun x12 w => BK Tryd.prog .lss 3 (.tmp 13) (.const (Value.int .i64 0)) x12 (Value.int .i64 0) w fun x14 w => MG Tryd.prog x14 false x12 w fun x16 w => BG Tryd.prog x14 false .geq 3 (.tmp 16) (.const (Value.int .i64 64)) x16 (Value.int .i64 64) w fun x17 w => PK Tryd.prog x14 (Value.bool true) x17 w fun x18 w => MG Tryd.prog x18 false x12 w fun x20 w => VG Tryd.prog x18 false (Instr.indexAt 114 (ρ 3) x20) w fun x21 w => VG Tryd.prog x18 false (Instr.loadAt 3 x21) w fun x22 w => BG Tryd.prog x18 false .gtr 3 (.tmp 22) (.const (Value.int .i64 0)) x22 (Value.int .i64 0) w fun x23 w => PK Tryd.prog x18 (Value.bool true) x23 w fun x24 w => CondK x24 (K .ret (up (up (up (up (up (up (up (up (up (up (up (up (up (up (up (up (up ρ 10 x10) 11 x11) 12 x12) 5 x12) 13 x12) 14 x14) 15 x14) 16 x16) 17 x17) 18 x18) 19 x18) 20 x20) 21 x21) 22 x22) 23 x23) 24 x24) 2 (Value.bool false)) w) (VK Tryd.prog (Instr.indexAt 114 (ρ 3) x12) w fun x26 w => VK Tryd.prog (Instr.loadAt 3 x26) w fun x27 w => BK Tryd.prog .add 3 (.tmp 27) (.const (Value.int .i64 1)) x27 (Value.int .i64 1) w fun x28 w => VK Tryd.prog (Instr.indexAt 114 (ρ 3) x12) w fun x29 w => UK Tryd.prog (Instr.storeAt 3 x29 x28) w fun _ w => BK Tryd.prog .add 3 (.tmp 9) (.const (Value.int .i64 1)) (ρ 9) (Value.int .i64 1) w fun x30 w => K .normal (up (up (up (up (up (up (up (up (up (up (up (up (up (up (up (up (up (up (up (up (up (up (up ρ 10 x10) 11 x11) 12 x12) 5 x12) 13 x12) 14 x14) 15 x14) 16 x16) 17 x17) 18 x18) 19 x18) 20 x20) 21 x21) 22 x22) 23 x23) 24 x24) 25 x12) 26 x26) 27 x27) 28 x28) 29 x29) 30 x30) 9 x30) w)) (K (.exit 0) (up ρ 10 x10) w)
theorem group_May_L0_eq (z : At) (K : Exit → Sl → World → Prop) (ρ : Sl) (w : World) : sx z Tryd.prog 35 group_May_L0 K ρ w = group_May_L0_F z K ρ w := by kernel_rfl
theorem group_May_L0_ok : dstOk 35 group_May_L0 = true := by kernel_rfl
noncomputable def group_May_R1_F (z : At) (K : Exit → Sl → World → Prop) (ρ : Sl) (w : World) : Prop :=
  VK Tryd.prog (Instr.fieldAt 32 (ρ 1) 1) w fun x31 w => VK Tryd.prog (Instr.loadAt 30 x31) w fun x32 w => IK Tryd.prog .len #[30] 3 [false] [x32] w fun x33 w => BK Tryd.prog .gtr 3 (.tmp 33) (.const (Value.int .i64 0)) x33 (Value.int .i64 0) w fun x34 w => K .ret (up (up (up (up (up ρ 31 x31) 32 x32) 33 x33) 34 x34) 2 x34) w
theorem group_May_R1_eq (z : At) (K : Exit → Sl → World → Prop) (ρ : Sl) (w : World) : sx z Tryd.prog 35 group_May_R1 K ρ w = group_May_R1_F z K ρ w := by kernel_rfl
noncomputable def group_May_F (a0 : Value) (w : World) (R : Value → World → Prop) : Prop :=
  VK Tryd.prog (Instr.box 32 a0) w fun x1 w => VK Tryd.prog (Instr.alloc 114 true (.tuple #[])) w fun x3 w => VK Tryd.prog (Instr.fieldAt 32 x1 1) w fun x6 w => VK Tryd.prog (Instr.loadAt 30 x6) w fun x7 w => IK Tryd.prog .len #[30] 3 [false] [x7] w fun x8 w => W fn_ Tryd.prog 35 (Code.loop group_May_L0) (blkK 0 (seqK (sx fn_ Tryd.prog 35 group_May_R1 (retK Tryd.prog [ResultVar.tmp 2] R)) (retK Tryd.prog [ResultVar.tmp 2] R))) (up (up (up (up (up (up (up (rho0 [a0]) 1 x1) 2 (Value.bool false)) 3 x3) 6 x6) 7 x7) 8 x8) 9 (Value.int .i64 0)) w
theorem group_May_eq (a0 : Value) (w : World) (R : Value → World → Prop) : sx fn_ Tryd.prog 35 group_May_b (retK Tryd.prog Tryd.f36.results.toList R) (rho0 [a0]) w = group_May_F a0 w R := by kernel_rfl
theorem group_May_calls {a0 : Value} {w : World} {R : Value → World → Prop} (h : group_May_F a0 w R) : Calls Tryd.prog 36 #[a0] w fun e w' => ∃ v, e = .returned v ∧ R v w' :=
  Go.X.calls_of_sx (n := 35) (c := group_May_b) Tryd.func36 (by kernel_rfl) (by kernel_rfl) (Nat.le_of_ble_eq_true rfl) (by kernel_rfl) (Eq.mpr (group_May_eq a0 w R) h)
noncomputable def group_Same_b : Code := (Tryd.f37.body).getD .skip
noncomputable def group_Same_F (a0 a1 : Value) (w : World) (R : Value → World → Prop) : Prop :=
  VK Tryd.prog (Instr.box 32 a0) w fun x2 w => VK Tryd.prog (Instr.box 32 a1) w fun x3 w => VK Tryd.prog (Instr.fieldAt 32 x2 0) w fun x5 w => VK Tryd.prog (Instr.loadAt 9 x5) w fun x6 w => VK Tryd.prog (Instr.fieldAt 32 x3 0) w fun x7 w => VK Tryd.prog (Instr.loadAt 9 x7) w fun x8 w => BK Tryd.prog .eql 9 (.tmp 6) (.tmp 8) x6 x8 w fun x9 w => VG Tryd.prog x9 true (Instr.fieldAt 32 x2 1) w fun x11 w => VG Tryd.prog x9 true (Instr.loadAt 30 x11) w fun x12 w => VG Tryd.prog x9 true (Instr.fieldAt 32 x3 1) w fun x13 w => VG Tryd.prog x9 true (Instr.loadAt 30 x13) w fun x14 w => CG Tryd.prog x9 true (Value.func (Fn.func 62) #[] #[]) [x12, x14] w fun x15 w => PK Tryd.prog x9 x15 (Value.bool false) w fun x16 w => R x16 w
theorem group_Same_eq (a0 a1 : Value) (w : World) (R : Value → World → Prop) : sx fn_ Tryd.prog 17 group_Same_b (retK Tryd.prog Tryd.f37.results.toList R) (rho0 [a0, a1]) w = group_Same_F a0 a1 w R := by kernel_rfl
theorem group_Same_calls {a0 a1 : Value} {w : World} {R : Value → World → Prop} (h : group_Same_F a0 a1 w R) : Calls Tryd.prog 37 #[a0, a1] w fun e w' => ∃ v, e = .returned v ∧ R v w' :=
  Go.X.calls_of_sx (n := 17) (c := group_Same_b) Tryd.func37 (by kernel_rfl) (by kernel_rfl) (Nat.le_of_ble_eq_true rfl) (by kernel_rfl) (Eq.mpr (group_Same_eq a0 a1 w R) h)
noncomputable def slices_Clone_int_int_b : Code := (Tryd.f38.body).getD .skip
noncomputable def slices_Clone_int_int_F (a0 : Value) (w : World) (R : Value → World → Prop) : Prop :=
  BK Tryd.prog .eql 30 (.tmp 3) (.const (Value.slice none 0 0)) a0 (Value.slice none 0 0) w fun x4 w => CondK x4 (R (Value.slice none 0 0) w) (VK Tryd.prog (Instr.buildSlice 30 0 [].toArray) w fun x5 w => IK Tryd.prog .append #[30, 30] 30 [false, false] [x5, a0] w fun x7 w => R x7 w)
theorem slices_Clone_int_int_eq (a0 : Value) (w : World) (R : Value → World → Prop) : sx fn_ Tryd.prog 8 slices_Clone_int_int_b (retK Tryd.prog Tryd.f38.results.toList R) (rho0 [a0]) w = slices_Clone_int_int_F a0 w R := by kernel_rfl
theorem slices_Clone_int_int_calls {a0 : Value} {w : World} {R : Value → World → Prop} (h : slices_Clone_int_int_F a0 w R) : Calls Tryd.prog 38 #[a0] w fun e w' => ∃ v, e = .returned v ∧ R v w' :=
  Go.X.calls_of_sx (n := 8) (c := slices_Clone_int_int_b) Tryd.func38 (by kernel_rfl) (by kernel_rfl) (Nat.le_of_ble_eq_true rfl) (by kernel_rfl) (Eq.mpr (slices_Clone_int_int_eq a0 w R) h)
noncomputable def slices_Clone_coll_Part_coll_Part_b : Code := (Tryd.f46.body).getD .skip
noncomputable def slices_Clone_coll_Part_coll_Part_F (a0 : Value) (w : World) (R : Value → World → Prop) : Prop :=
  BK Tryd.prog .eql 61 (.tmp 3) (.const (Value.slice none 0 0)) a0 (Value.slice none 0 0) w fun x4 w => CondK x4 (R (Value.slice none 0 0) w) (VK Tryd.prog (Instr.buildSlice 61 0 [].toArray) w fun x5 w => IK Tryd.prog .append #[61, 61] 61 [false, false] [x5, a0] w fun x7 w => R x7 w)
theorem slices_Clone_coll_Part_coll_Part_eq (a0 : Value) (w : World) (R : Value → World → Prop) : sx fn_ Tryd.prog 8 slices_Clone_coll_Part_coll_Part_b (retK Tryd.prog Tryd.f46.results.toList R) (rho0 [a0]) w = slices_Clone_coll_Part_coll_Part_F a0 w R := by kernel_rfl
theorem slices_Clone_coll_Part_coll_Part_calls {a0 : Value} {w : World} {R : Value → World → Prop} (h : slices_Clone_coll_Part_coll_Part_F a0 w R) : Calls Tryd.prog 46 #[a0] w fun e w' => ∃ v, e = .returned v ∧ R v w' :=
  Go.X.calls_of_sx (n := 8) (c := slices_Clone_coll_Part_coll_Part_b) Tryd.func46 (by kernel_rfl) (by kernel_rfl) (Nat.le_of_ble_eq_true rfl) (by kernel_rfl) (Eq.mpr (slices_Clone_coll_Part_coll_Part_eq a0 w R) h)
noncomputable def coll_Coll_of_b : Code := (Tryd.f47.body).getD .skip
noncomputable def coll_Coll_of_R0 : Code := cAt [1, 1, 1, 1] coll_Coll_of_b
noncomputable def coll_Coll_of_R0_F (z : At) (K : Exit → Sl → World → Prop) (ρ : Sl) (w : World) : Prop :=
  K .ret (up (up (up (up (up (up ρ 38 (ρ 9)) 39 (ρ 10)) 40 (ρ 11)) 6 (ρ 9)) 7 (ρ 10)) 8 (ρ 11)) w
theorem coll_Coll_of_R0_eq (z : At) (K : Exit → Sl → World → Prop) (ρ : Sl) (w : World) : sx z Tryd.prog 41 coll_Coll_of_R0 K ρ w = coll_Coll_of_R0_F z K ρ w := by kernel_rfl
noncomputable def coll_Coll_of_F (a0 a1 a2 : Value) (w : World) (R : Value → World → Prop) : Prop :=
  CK Tryd.prog (Value.func (Fn.func 34) #[] #[]) [a0] w fun x13 w => MG Tryd.prog x13 false a0 w fun x15 w => NG Tryd.prog x13 false x15 w fun x16 w => VG Tryd.prog x13 false (Instr.fieldAt 72 x16 1) w fun x17 w => VG Tryd.prog x13 false (Instr.loadAt 70 x17) w fun x18 w => MG Tryd.prog x13 false a1 w fun x19 w => VG Tryd.prog x13 false (Instr.lookup 70 x18 x19 false) w fun x20 w => BG Tryd.prog x13 false .eql 76 (.tmp 20) (.const (Value.pointer none)) x20 (Value.pointer none) w fun x21 w => PK Tryd.prog x13 (Value.bool true) x21 w fun x22 w => CondK x22 (R (Value.tuple #[(Value.pointer none), (Value.int .i64 0), (Value.bool false)]) w) (NK Tryd.prog a0 w fun x24 w => VK Tryd.prog (Instr.fieldAt 72 x24 1) w fun x25 w => VK Tryd.prog (Instr.loadAt 70 x25) w fun x26 w => VK Tryd.prog (Instr.lookup 70 x26 a1 false) w fun x28 w => NK Tryd.prog x28 w fun x31 w => VK Tryd.prog (Instr.fieldAt 82 x31 0) w fun x32 w => VK Tryd.prog (Instr.loadAt 32 x32) w fun x33 w => CK Tryd.prog (Value.func (Fn.func 35) #[] #[]) [x33, a2] w fun x35 w => VK Tryd.prog (Instr.extract x35 0) w fun x36 w => VK Tryd.prog (Instr.extract x35 1) w fun x37 w => sx fn_ Tryd.prog 41 coll_Coll_of_R0 (retK Tryd.prog [ResultVar.tmp 6, ResultVar.tmp 7, ResultVar.tmp 8] R) (up (up (up (up (up (up (up (up (up (up (up (up (up (up (up (up (up (up (up (up (up (up (up (up (up (up (up (up (up (up (up (up (rho0 [a0, a1, a2]) 6 (Value.pointer none)) 7 (Value.int .i64 0)) 8 (Value.bool false)) 12 a0) 13 x13) 14 x13) 15 x15) 16 x16) 17 x17) 18 x18) 19 x19) 20 x20) 21 x21) 22 x22) 23 a0) 24 x24) 25 x25) 26 x26) 27 a1) 28 x28) 9 x28) 30 x28) 31 x31) 32 x32) 33 x33) 34 a2) 35 x35) 29 x35) 36 x36) 37 x37) 10 x36) 11 x37) w)
theorem coll_Coll_of_eq (a0 a1 a2 : Value) (w : World) (R : Value → World → Prop) : sx fn_ Tryd.prog 41 coll_Coll_of_b (retK Tryd.prog Tryd.f47.results.toList R) (rho0 [a0, a1, a2]) w = coll_Coll_of_F a0 a1 a2 w R := by kernel_rfl
theorem coll_Coll_of_calls {a0 a1 a2 : Value} {w : World} {R : Value → World → Prop} (h : coll_Coll_of_F a0 a1 a2 w R) : Calls Tryd.prog 47 #[a0, a1, a2] w fun e w' => ∃ v, e = .returned v ∧ R v w' :=
  Go.X.calls_of_sx (n := 41) (c := coll_Coll_of_b) Tryd.func47 (by kernel_rfl) (by kernel_rfl) (Nat.le_of_ble_eq_true rfl) (by kernel_rfl) (Eq.mpr (coll_Coll_of_eq a0 a1 a2 w R) h)
noncomputable def coll_rooted_b : Code := (Tryd.f48.body).getD .skip
noncomputable def coll_rooted_F (a0 : Value) (w : World) (R : Value → World → Prop) : Prop :=
  BK Tryd.prog .eql 5 (.tmp 3) (.const (Value.int .u8 16)) a0 (Value.int .u8 16) w fun x4 w => MG Tryd.prog x4 false a0 w fun x6 w => BG Tryd.prog x4 false .eql 5 (.tmp 6) (.const (Value.int .u8 17)) x6 (Value.int .u8 17) w fun x7 w => PK Tryd.prog x4 (Value.bool true) x7 w fun x8 w => MG Tryd.prog x8 false a0 w fun x10 w => BG Tryd.prog x8 false .eql 5 (.tmp 10) (.const (Value.int .u8 19)) x10 (Value.int .u8 19) w fun x11 w => PK Tryd.prog x8 (Value.bool true) x11 w fun x12 w => R x12 w
theorem coll_rooted_eq (a0 : Value) (w : World) (R : Value → World → Prop) : sx fn_ Tryd.prog 13 coll_rooted_b (retK Tryd.prog Tryd.f48.results.toList R) (rho0 [a0]) w = coll_rooted_F a0 w R := by kernel_rfl
theorem coll_rooted_calls {a0 : Value} {w : World} {R : Value → World → Prop} (h : coll_rooted_F a0 w R) : Calls Tryd.prog 48 #[a0] w fun e w' => ∃ v, e = .returned v ∧ R v w' :=
  Go.X.calls_of_sx (n := 13) (c := coll_rooted_b) Tryd.func48 (by kernel_rfl) (by kernel_rfl) (Nat.le_of_ble_eq_true rfl) (by kernel_rfl) (Eq.mpr (coll_rooted_eq a0 w R) h)
noncomputable def coll_reduces_b : Code := (Tryd.f49.body).getD .skip
noncomputable def coll_reduces_F (a0 : Value) (w : World) (R : Value → World → Prop) : Prop :=
  BK Tryd.prog .eql 5 (.tmp 3) (.const (Value.int .u8 17)) a0 (Value.int .u8 17) w fun x4 w => MG Tryd.prog x4 false a0 w fun x6 w => BG Tryd.prog x4 false .eql 5 (.tmp 6) (.const (Value.int .u8 18)) x6 (Value.int .u8 18) w fun x7 w => PK Tryd.prog x4 (Value.bool true) x7 w fun x8 w => R x8 w
theorem coll_reduces_eq (a0 : Value) (w : World) (R : Value → World → Prop) : sx fn_ Tryd.prog 9 coll_reduces_b (retK Tryd.prog Tryd.f49.results.toList R) (rho0 [a0]) w = coll_reduces_F a0 w R := by kernel_rfl
theorem coll_reduces_calls {a0 : Value} {w : World} {R : Value → World → Prop} (h : coll_reduces_F a0 w R) : Calls Tryd.prog 49 #[a0] w fun e w' => ∃ v, e = .returned v ∧ R v w' :=
  Go.X.calls_of_sx (n := 9) (c := coll_reduces_b) Tryd.func49 (by kernel_rfl) (by kernel_rfl) (Nat.le_of_ble_eq_true rfl) (by kernel_rfl) (Eq.mpr (coll_reduces_eq a0 w R) h)
noncomputable def coll_rows_odd_b : Code := (Tryd.f52.body).getD .skip
noncomputable def coll_rows_odd_L0 : Code := cAt [1, 1, 0, 1, 0, 0] coll_rows_odd_b
noncomputable def coll_rows_odd_R1 : Code := cAt [1, 1, 1] coll_rows_odd_b
noncomputable def coll_rows_odd_R2 : Code := cAt [1, 1, 0, 1, 0, 0, 1, 1, 1] coll_rows_odd_b
noncomputable def coll_rows_odd_R3 : Code := cAt [1, 1, 0, 1, 0, 0, 1, 1, 0, 0, 1, 1, 0, 0] coll_rows_odd_b
noncomputable def coll_rows_odd_R4 : Code := cAt [1, 1, 0, 1, 0, 0, 1, 1, 0, 0, 1, 1, 0, 1] coll_rows_odd_b
noncomputable def coll_rows_odd_R5 : Code := cAt [1, 1, 0, 1, 0, 0, 1, 1, 0, 0, 1, 1, 1] coll_rows_odd_b
noncomputable def coll_rows_odd_L0_F (z : At) (K : Exit → Sl → World → Prop) (ρ : Sl) (w : World) : Prop :=
  BK Tryd.prog .lss 3 (.tmp 14) (.tmp 13) (ρ 14) (ρ 13) w fun x15 w => CondK x15 (CK Tryd.prog (Value.func (Fn.func 58) #[] #[]) [(ρ 0), (ρ 14), (ρ 1)] w fun x21 w => VK Tryd.prog (Instr.extract x21 0) w fun x22 w => VK Tryd.prog (Instr.extract x21 1) w fun x23 w => VK Tryd.prog (Instr.alloc 34 true (.tuple #[])) w fun x7 w => UK Tryd.prog (Instr.storeAt 34 x7 x22) w fun _ w => W z Tryd.prog 43 coll_rows_odd_R3 (seqK (sx z Tryd.prog 43 coll_rows_odd_R4 (seqK (sx z Tryd.prog 43 coll_rows_odd_R5 (blkK 1 (seqK (sx z Tryd.prog 43 coll_rows_odd_R2 K) K))) (blkK 1 (seqK (sx z Tryd.prog 43 coll_rows_odd_R2 K) K)))) (seqK (sx z Tryd.prog 43 coll_rows_odd_R5 (blkK 1 (seqK (sx z Tryd.prog 43 coll_rows_odd_R2 K) K))) (blkK 1 (seqK (sx z Tryd.prog 43 coll_rows_odd_R2 K) K)))) (up (up (up (up (up (up (up (up (up (up (up (up ρ 15 x15) 16 (ρ 14)) 6 (ρ 14)) 18 (ρ 0)) 19 (ρ 14)) 20 (ρ 1)) 21 x21) 17 x21) 22 x22) 23 x23) 7 x7) 8 x23) w) (K (.exit 0) (up ρ 15 x15) w)
theorem coll_rows_odd_L0_eq (z : At) (K : Exit → Sl → World → Prop) (ρ : Sl) (w : World) : sx z Tryd.prog 43 coll_rows_odd_L0 K ρ w = coll_rows_odd_L0_F z K ρ w := by kernel_rfl
theorem coll_rows_odd_L0_ok : dstOk 43 coll_rows_odd_L0 = true := by kernel_rfl
noncomputable def coll_rows_odd_R1_F (z : At) (K : Exit → Sl → World → Prop) (ρ : Sl) (w : World) : Prop :=
  K .ret (up ρ 4 (Value.bool false)) w
theorem coll_rows_odd_R1_eq (z : At) (K : Exit → Sl → World → Prop) (ρ : Sl) (w : World) : sx z Tryd.prog 43 coll_rows_odd_R1 K ρ w = coll_rows_odd_R1_F z K ρ w := by kernel_rfl
noncomputable def coll_rows_odd_R2_F (z : At) (K : Exit → Sl → World → Prop) (ρ : Sl) (w : World) : Prop :=
  BK Tryd.prog .add 3 (.tmp 14) (.const (Value.int .i64 1)) (ρ 14) (Value.int .i64 1) w fun x42 w => K .normal (up (up ρ 42 x42) 14 x42) w
theorem coll_rows_odd_R2_eq (z : At) (K : Exit → Sl → World → Prop) (ρ : Sl) (w : World) : sx z Tryd.prog 43 coll_rows_odd_R2 K ρ w = coll_rows_odd_R2_F z K ρ w := by kernel_rfl
noncomputable def coll_rows_odd_R3_ops : Array Oper := opsOf coll_rows_odd_R3
def coll_rows_odd_R3_Q (C : World → Prop) (K : Exit → Sl → World → Prop) (ρ : Sl) : Prop :=
  QG Tryd.prog C (ρ 8) true  (pure (Next.value (ρ 5))) fun x26 => QG Tryd.prog C (ρ 8) true  (do pure (Next.value (← (do eqGuard BinOp.neq 127 (Operand.tmp 26) (Operand.const (Value.pointer none)) x26 (Value.pointer none); binOp BinOp.neq 127 x26 (Value.pointer none))))) fun x27 => QK Tryd.prog C (do pure (Next.value (if ← asBool (ρ 8) then x27 else (Value.bool false)))) fun x28 => QG Tryd.prog C x28 true  (pure (Next.value (ρ 5))) fun x30 => QG Tryd.prog C x28 true  (nilCk x30) fun x31 => QG Tryd.prog C x28 true  (do pure (Next.value (← Instr.loadAt 34 x31))) fun x32 => QG Tryd.prog C x28 true  (do pure (Next.value (← Instr.loadAt 34 (ρ 7)))) fun x33 => QG Tryd.prog C x28 true  (do let d ← Deferred.ofValue (Value.func (Fn.func 21) #[] #[]) [x32, x33].toArray; invoke d.target d.args) fun x34 => QG Tryd.prog C x28 true  (do pure (Next.value (← Op.unary UnOp.not x34))) fun x35 => QK Tryd.prog C (do pure (Next.value (if ← asBool x28 then x35 else (Value.bool false)))) fun x36 => ∀ w', C w' → K Exit.normal (up (up (up (up (up (up (up (up (up (up (up (up (up ρ 24 (ρ 8)) 25 (ρ 8)) 26 x26) 27 x27) 28 x28) 29 x28) 30 x30) 31 x31) 32 x32) 33 x33) 34 x34) 35 x35) 36 x36) w'
theorem coll_rows_odd_R3_quiet {D : List Deferred} (C : World → Prop) {K : Exit → Sl → World → Prop} {ρ : Sl} {w : World} (hC : C { w with drawn := w.drawn + 1 }) (h : coll_rows_odd_R3_Q C K ρ) : W ⟨none, D⟩ Tryd.prog 43 coll_rows_odd_R3 K ρ w := by
  have e : coll_rows_odd_R3 = .region (idOf coll_rows_odd_R3) coll_rows_odd_R3_ops true := by kernel_rfl
  have q : sxq Tryd.prog C coll_rows_odd_R3_ops (fun ρ' => ∀ w', C w' → K .normal ρ' w') coll_rows_odd_R3_ops.toList ρ = coll_rows_odd_R3_Q C K ρ := by kernel_rfl
  rw [e]
  exact W_quiet C (by kernel_rfl) (by kernel_rfl) (by kernel_rfl) hC (Eq.mpr q h)
noncomputable def coll_rows_odd_R4_F (z : At) (K : Exit → Sl → World → Prop) (ρ : Sl) (w : World) : Prop :=
  CondK (ρ 36) (K .ret (up ρ 4 (Value.bool true)) w) (K .normal ρ w)
theorem coll_rows_odd_R4_eq (z : At) (K : Exit → Sl → World → Prop) (ρ : Sl) (w : World) : sx z Tryd.prog 43 coll_rows_odd_R4 K ρ w = coll_rows_odd_R4_F z K ρ w := by kernel_rfl
noncomputable def coll_rows_odd_R5_F (z : At) (K : Exit → Sl → World → Prop) (ρ : Sl) (w : World) : Prop :=
  MG Tryd.prog (ρ 8) true (ρ 5) w fun x39 w => BG Tryd.prog (ρ 8) true .eql 127 (.tmp 39) (.const (Value.pointer none)) x39 (Value.pointer none) w fun x40 w => PK Tryd.prog (ρ 8) x40 (Value.bool false) w fun x41 w => CondK x41 (K .normal (up (up (up (up (up (up ρ 37 (ρ 8)) 38 (ρ 8)) 39 x39) 40 x40) 41 x41) 5 (ρ 7)) w) (K .normal (up (up (up (up (up ρ 37 (ρ 8)) 38 (ρ 8)) 39 x39) 40 x40) 41 x41) w)
theorem coll_rows_odd_R5_eq (z : At) (K : Exit → Sl → World → Prop) (ρ : Sl) (w : World) : sx z Tryd.prog 43 coll_rows_odd_R5 K ρ w = coll_rows_odd_R5_F z K ρ w := by kernel_rfl
noncomputable def coll_rows_odd_F (a0 a1 : Value) (w : World) (R : Value → World → Prop) : Prop :=
  NK Tryd.prog a0 w fun x10 w => VK Tryd.prog (Instr.fieldAt 82 x10 1) w fun x11 w => VK Tryd.prog (Instr.loadAt 80 x11) w fun x12 w => IK Tryd.prog .len #[80] 3 [false] [x12] w fun x13 w => W fn_ Tryd.prog 43 (Code.loop coll_rows_odd_L0) (blkK 0 (seqK (sx fn_ Tryd.prog 43 coll_rows_odd_R1 (retK Tryd.prog [ResultVar.tmp 4] R)) (retK Tryd.prog [ResultVar.tmp 4] R))) (up (up (up (up (up (up (up (up (rho0 [a0, a1]) 4 (Value.bool false)) 5 (Value.pointer none)) 9 a0) 10 x10) 11 x11) 12 x12) 13 x13) 14 (Value.int .i64 0)) w
theorem coll_rows_odd_eq (a0 a1 : Value) (w : World) (R : Value → World → Prop) : sx fn_ Tryd.prog 43 coll_rows_odd_b (retK Tryd.prog Tryd.f52.results.toList R) (rho0 [a0, a1]) w = coll_rows_odd_F a0 a1 w R := by kernel_rfl
theorem coll_rows_odd_calls {a0 a1 : Value} {w : World} {R : Value → World → Prop} (h : coll_rows_odd_F a0 a1 w R) : Calls Tryd.prog 52 #[a0, a1] w fun e w' => ∃ v, e = .returned v ∧ R v w' :=
  Go.X.calls_of_sx (n := 43) (c := coll_rows_odd_b) Tryd.func52 (by kernel_rfl) (by kernel_rfl) (Nat.le_of_ble_eq_true rfl) (by kernel_rfl) (Eq.mpr (coll_rows_odd_eq a0 a1 w R) h)
noncomputable def coll_Coll_over_b : Code := (Tryd.f57.body).getD .skip
noncomputable def coll_Coll_over_R0 : Code := cAt [1, 1, 1] coll_Coll_over_b
noncomputable def coll_Coll_over_R1 : Code := cAt [1, 1, 0, 0, 1, 1, 1, 1, 1, 0, 1] coll_Coll_over_b
noncomputable def coll_Coll_over_R2 : Code := cAt [1, 1, 0, 0, 1, 1, 1, 1, 1, 1, 1] coll_Coll_over_b
noncomputable def coll_Coll_over_R0_F (z : At) (K : Exit → Sl → World → Prop) (ρ : Sl) (w : World) : Prop :=
  VK Tryd.prog (Instr.loadAt 34 (ρ 9)) w fun x59 w => CK Tryd.prog (Value.func (Fn.func 72) #[] #[]) [(ρ 1), (ρ 3), x59] w fun x60 w => K .ret (up (up (up (up (up ρ 57 (ρ 1)) 58 (ρ 3)) 59 x59) 60 x60) 8 x60) w
theorem coll_Coll_over_R0_eq (z : At) (K : Exit → Sl → World → Prop) (ρ : Sl) (w : World) : sx z Tryd.prog 61 coll_Coll_over_R0 K ρ w = coll_Coll_over_R0_F z K ρ w := by kernel_rfl
noncomputable def coll_Coll_over_R1_F (z : At) (K : Exit → Sl → World → Prop) (ρ : Sl) (w : World) : Prop :=
  VG Tryd.prog (ρ 12) true (Instr.loadAt 34 (ρ 11)) w fun x43 w => VG Tryd.prog (ρ 12) true (Instr.loadAt 34 (ρ 9)) w fun x44 w => CG Tryd.prog (ρ 12) true (Value.func (Fn.func 21) #[] #[]) [x43, x44] w fun x45 w => PK Tryd.prog (ρ 12) x45 (Value.bool false) w fun x46 w => K .ret (up (up (up (up (up (up (up ρ 41 (ρ 12)) 42 (ρ 12)) 43 x43) 44 x44) 45 x45) 46 x46) 8 x46) w
theorem coll_Coll_over_R1_eq (z : At) (K : Exit → Sl → World → Prop) (ρ : Sl) (w : World) : sx z Tryd.prog 61 coll_Coll_over_R1 K ρ w = coll_Coll_over_R1_F z K ρ w := by kernel_rfl
noncomputable def coll_Coll_over_R2_F (z : At) (K : Exit → Sl → World → Prop) (ρ : Sl) (w : World) : Prop :=
  CondK (ρ 47) (K .ret (up ρ 8 (Value.bool true)) w) (K .normal ρ w)
theorem coll_Coll_over_R2_eq (z : At) (K : Exit → Sl → World → Prop) (ρ : Sl) (w : World) : sx z Tryd.prog 61 coll_Coll_over_R2 K ρ w = coll_Coll_over_R2_F z K ρ w := by kernel_rfl
noncomputable def coll_Coll_over_F (a0 a1 a2 a3 : Value) (w : World) (R : Value → World → Prop) : Prop :=
  CK Tryd.prog (Value.func (Fn.func 58) #[] #[]) [a1, a2, a3] w fun x17 w => VK Tryd.prog (Instr.extract x17 0) w fun x18 w => VK Tryd.prog (Instr.extract x17 1) w fun x19 w => VK Tryd.prog (Instr.alloc 34 true (.tuple #[])) w fun x9 w => UK Tryd.prog (Instr.storeAt 34 x9 x18) w fun _ w => VK Tryd.prog (Op.unary UnOp.not x19) w fun x22 w => CondK x22 (R (Value.bool false) w) (NK Tryd.prog a0 w fun x25 w => VK Tryd.prog (Instr.fieldAt 72 x25 0) w fun x26 w => VK Tryd.prog (Instr.loadAt 4 x26) w fun x27 w => VK Tryd.prog (Op.unary UnOp.not x27) w fun x28 w => CondK x28 (sx fn_ Tryd.prog 61 coll_Coll_over_R0 (retK Tryd.prog [ResultVar.tmp 8] R) (up (up (up (up (up (up (up (up (up (up (up (up (up (up (up (up (up (up (up (rho0 [a0, a1, a2, a3]) 8 (Value.bool false)) 14 a1) 15 a2) 16 a3) 17 x17) 13 x17) 18 x18) 19 x19) 9 x9) 10 x19) 21 x19) 22 x22) 20 x22) 24 a0) 25 x25) 26 x26) 27 x27) 28 x28) 23 x28) w) (VK Tryd.prog (Instr.fieldAt 34 x9 0) w fun x30 w => VK Tryd.prog (Instr.loadAt 5 x30) w fun x31 w => BK Tryd.prog .eql 5 (.tmp 31) (.const (Value.int .u8 16)) x31 (Value.int .u8 16) w fun x32 w => CondK x32 (VK Tryd.prog (Instr.fieldAt 34 x9 1) w fun x35 w => VK Tryd.prog (Instr.loadAt 3 x35) w fun x36 w => CK Tryd.prog (Value.func (Fn.func 58) #[] #[]) [a1, x36, a3] w fun x38 w => VK Tryd.prog (Instr.extract x38 0) w fun x39 w => VK Tryd.prog (Instr.extract x38 1) w fun x40 w => VK Tryd.prog (Instr.alloc 34 true (.tuple #[])) w fun x11 w => UK Tryd.prog (Instr.storeAt 34 x11 x39) w fun _ w => sx fn_ Tryd.prog 61 coll_Coll_over_R1 (blkK 0 (seqK (sx fn_ Tryd.prog 61 coll_Coll_over_R0 (retK Tryd.prog [ResultVar.tmp 8] R)) (retK Tryd.prog [ResultVar.tmp 8] R))) (up (up (up (up (up (up (up (up (up (up (up (up (up (up (up (up (up (up (up (up (up (up (up (up (up (up (up (up (up (up (up (up (up (rho0 [a0, a1, a2, a3]) 8 (Value.bool false)) 14 a1) 15 a2) 16 a3) 17 x17) 13 x17) 18 x18) 19 x19) 9 x9) 10 x19) 21 x19) 22 x22) 20 x22) 24 a0) 25 x25) 26 x26) 27 x27) 28 x28) 23 x28) 30 x30) 31 x31) 32 x32) 29 x32) 34 a1) 35 x35) 36 x36) 37 a3) 38 x38) 33 x38) 39 x39) 40 x40) 11 x11) 12 x40) w) (VK Tryd.prog (Instr.fieldAt 34 x9 0) w fun x48 w => VK Tryd.prog (Instr.loadAt 5 x48) w fun x49 w => CK Tryd.prog (Value.func (Fn.func 48) #[] #[]) [x49] w fun x50 w => VG Tryd.prog x50 true (Instr.fieldAt 34 x9 1) w fun x52 w => VG Tryd.prog x50 true (Instr.loadAt 3 x52) w fun x53 w => MG Tryd.prog x50 true a2 w fun x54 w => BG Tryd.prog x50 true .neq 3 (.tmp 53) (.tmp 54) x53 x54 w fun x55 w => PK Tryd.prog x50 x55 (Value.bool false) w fun x56 w => sx fn_ Tryd.prog 61 coll_Coll_over_R2 (blkK 0 (seqK (sx fn_ Tryd.prog 61 coll_Coll_over_R0 (retK Tryd.prog [ResultVar.tmp 8] R)) (retK Tryd.prog [ResultVar.tmp 8] R))) (up (up (up (up (up (up (up (up (up (up (up (up (up (up (up (up (up (up (up (up (up (up (up (up (up (up (up (up (up (up (up (up (up (rho0 [a0, a1, a2, a3]) 8 (Value.bool false)) 14 a1) 15 a2) 16 a3) 17 x17) 13 x17) 18 x18) 19 x19) 9 x9) 10 x19) 21 x19) 22 x22) 20 x22) 24 a0) 25 x25) 26 x26) 27 x27) 28 x28) 23 x28) 30 x30) 31 x31) 32 x32) 29 x32) 48 x48) 49 x49) 50 x50) 51 x50) 52 x52) 53 x53) 54 x54) 55 x55) 56 x56) 47 x56) w)))
theorem coll_Coll_over_eq (a0 a1 a2 a3 : Value) (w : World) (R : Value → World → Prop) : sx fn_ Tryd.prog 61 coll_Coll_over_b (retK Tryd.prog Tryd.f57.results.toList R) (rho0 [a0, a1, a2, a3]) w = coll_Coll_over_F a0 a1 a2 a3 w R := by kernel_rfl
theorem coll_Coll_over_calls {a0 a1 a2 a3 : Value} {w : World} {R : Value → World → Prop} (h : coll_Coll_over_F a0 a1 a2 a3 w R) : Calls Tryd.prog 57 #[a0, a1, a2, a3] w fun e w' => ∃ v, e = .returned v ∧ R v w' :=
  Go.X.calls_of_sx (n := 61) (c := coll_Coll_over_b) Tryd.func57 (by kernel_rfl) (by kernel_rfl) (Nat.le_of_ble_eq_true rfl) (by kernel_rfl) (Eq.mpr (coll_Coll_over_eq a0 a1 a2 a3 w R) h)
noncomputable def coll_rows_part_b : Code := (Tryd.f58.body).getD .skip
noncomputable def coll_rows_part_F (a0 a1 a2 : Value) (w : World) (R : Value → World → Prop) : Prop :=
  VK Tryd.prog (Instr.alloc 34 true (.tuple #[])) w fun x6 w => BK Tryd.prog .lss 3 (.tmp 8) (.const (Value.int .i64 0)) a2 (Value.int .i64 0) w fun x9 w => MG Tryd.prog x9 false a2 w fun x11 w => MG Tryd.prog x9 false a0 w fun x12 w => NG Tryd.prog x9 false x12 w fun x13 w => VG Tryd.prog x9 false (Instr.fieldAt 82 x13 1) w fun x14 w => VG Tryd.prog x9 false (Instr.loadAt 80 x14) w fun x15 w => MG Tryd.prog x9 false a1 w fun x16 w => VG Tryd.prog x9 false (Instr.indexAt 80 x15 x16) w fun x17 w => VG Tryd.prog x9 false (Instr.loadAt 61 x17) w fun x18 w => IG Tryd.prog x9 false .len #[61] 3 [false] [x18] w fun x19 w => BG Tryd.prog x9 false .geq 3 (.tmp 11) (.tmp 19) x11 x19 w fun x20 w => PK Tryd.prog x9 (Value.bool true) x20 w fun x21 w => CondK x21 (VK Tryd.prog (Instr.build 34 [].toArray) w fun x22 w => UK Tryd.prog (Instr.storeAt 34 x6 x22) w fun _ w => ∃ x6_1, (do loadVar 34 (← asAddr x6) : Sem Value).run Tryd.prog w = .ok x6_1 w ∧ R (Value.tuple #[x6_1, (Value.bool false)]) w) (NK Tryd.prog a0 w fun x24 w => VK Tryd.prog (Instr.fieldAt 82 x24 1) w fun x25 w => VK Tryd.prog (Instr.loadAt 80 x25) w fun x26 w => VK Tryd.prog (Instr.indexAt 80 x26 a1) w fun x28 w => VK Tryd.prog (Instr.loadAt 61 x28) w fun x29 w => VK Tryd.prog (Instr.indexAt 61 x29 a2) w fun x31 w => VK Tryd.prog (Instr.loadAt 34 x31) w fun x32 w => UK Tryd.prog (Instr.storeAt 34 x6 x32) w fun _ w => ∃ x6_2, (do loadVar 34 (← asAddr x6) : Sem Value).run Tryd.prog w = .ok x6_2 w ∧ R (Value.tuple #[x6_2, (Value.bool true)]) w)
theorem coll_rows_part_eq (a0 a1 a2 : Value) (w : World) (R : Value → World → Prop) : sx fn_ Tryd.prog 33 coll_rows_part_b (retK Tryd.prog Tryd.f58.results.toList R) (rho0 [a0, a1, a2]) w = coll_rows_part_F a0 a1 a2 w R := by kernel_rfl
theorem coll_rows_part_calls {a0 a1 a2 : Value} {w : World} {R : Value → World → Prop} (h : coll_rows_part_F a0 a1 a2 w R) : Calls Tryd.prog 58 #[a0, a1, a2] w fun e w' => ∃ v, e = .returned v ∧ R v w' :=
  Go.X.calls_of_sx (n := 33) (c := coll_rows_part_b) Tryd.func58 (by kernel_rfl) (by kernel_rfl) (Nat.le_of_ble_eq_true rfl) (by kernel_rfl) (Eq.mpr (coll_rows_part_eq a0 a1 a2 w R) h)
noncomputable def coll_tellers_b : Code := (Tryd.f59.body).getD .skip
noncomputable def coll_tellers_F (w : World) (R : Value → World → Prop) : Prop :=
  VK Tryd.prog (Instr.alloc 107 true (.tuple #[])) w fun x0 w => VK Tryd.prog (Instr.build 106 [(0, (Value.func (Fn.func 73) #[] #[]))].toArray) w fun x1 w => VK Tryd.prog (Instr.build 106 [(0, (Value.func (Fn.func 74) #[] #[]))].toArray) w fun x2 w => VK Tryd.prog (Instr.build 106 [(0, (Value.func (Fn.func 75) #[] #[]))].toArray) w fun x3 w => VK Tryd.prog (Instr.build 106 [(0, (Value.func (Fn.func 77) #[] #[]))].toArray) w fun x4 w => VK Tryd.prog (Instr.build 106 [(0, (Value.func (Fn.func 78) #[] #[]))].toArray) w fun x5 w => VK Tryd.prog (Instr.build 106 [(0, (Value.func (Fn.func 80) #[] #[]))].toArray) w fun x6 w => VK Tryd.prog (Instr.build 106 [(0, (Value.func (Fn.func 82) #[] #[]))].toArray) w fun x7 w => VK Tryd.prog (Instr.build 107 [(0, x1), (1, x2), (2, x3), (3, x4), (4, x5), (5, x6), (6, x7)].toArray) w fun x8 w => UK Tryd.prog (Instr.storeAt 107 x0 x8) w fun _ w => ∃ x0_1, (do loadVar 107 (← asAddr x0) : Sem Value).run Tryd.prog w = .ok x0_1 w ∧ R x0_1 w
theorem coll_tellers_calls {w : World} {R : Value → World → Prop} (h : coll_tellers_F  w R) : Calls Tryd.prog 59 #[] w fun e w' => ∃ v, e = .returned v ∧ R v w' :=
  Go.X.calls_eq (n := 9) (c := coll_tellers_b) (fn := Tryd.f59) (args := #[]) (F := coll_tellers_F  w R) (R := R) Tryd.func59 (by kernel_rfl) (by kernel_rfl) (Nat.le_of_ble_eq_true rfl) (by kernel_rfl) (by kernel_rfl) h
noncomputable def slices_Index_int_int_b : Code := (Tryd.f61.body).getD .skip
noncomputable def slices_Index_int_int_L0 : Code := cAt [1, 0, 1, 0, 0] slices_Index_int_int_b
noncomputable def slices_Index_int_int_R1 : Code := cAt [1, 1] slices_Index_int_int_b
noncomputable def slices_Index_int_int_L0_F (z : At) (K : Exit → Sl → World → Prop) (ρ : Sl) (w : World) : Prop :=
  BK Tryd.prog .lss 3 (.tmp 8) (.tmp 7) (ρ 8) (ρ 7) w fun x9 w => CondK x9 (VK Tryd.prog (Instr.indexAt 30 (ρ 0) (ρ 8)) w fun x14 w => VK Tryd.prog (Instr.loadAt 3 x14) w fun x15 w => BK Tryd.prog .eql 3 (.tmp 11) (.tmp 15) (ρ 1) x15 w fun x16 w => CondK x16 (K .ret (up (up (up (up (up (up (up (up (up (up (up ρ 9 x9) 10 (ρ 8)) 5 (ρ 8)) 11 (ρ 1)) 12 (ρ 0)) 13 (ρ 8)) 14 x14) 15 x15) 16 x16) 17 (ρ 8)) 4 (ρ 8)) w) (BK Tryd.prog .add 3 (.tmp 8) (.const (Value.int .i64 1)) (ρ 8) (Value.int .i64 1) w fun x18 w => K .normal (up (up (up (up (up (up (up (up (up (up (up ρ 9 x9) 10 (ρ 8)) 5 (ρ 8)) 11 (ρ 1)) 12 (ρ 0)) 13 (ρ 8)) 14 x14) 15 x15) 16 x16) 18 x18) 8 x18) w)) (K (.exit 0) (up ρ 9 x9) w)
theorem slices_Index_int_int_L0_eq (z : At) (K : Exit → Sl → World → Prop) (ρ : Sl) (w : World) : sx z Tryd.prog 19 slices_Index_int_int_L0 K ρ w = slices_Index_int_int_L0_F z K ρ w := by kernel_rfl
theorem slices_Index_int_int_L0_ok : dstOk 19 slices_Index_int_int_L0 = true := by kernel_rfl
noncomputable def slices_Index_int_int_R1_F (z : At) (K : Exit → Sl → World → Prop) (ρ : Sl) (w : World) : Prop :=
  K .ret (up ρ 4 (Value.int .i64 (-1))) w
theorem slices_Index_int_int_R1_eq (z : At) (K : Exit → Sl → World → Prop) (ρ : Sl) (w : World) : sx z Tryd.prog 19 slices_Index_int_int_R1 K ρ w = slices_Index_int_int_R1_F z K ρ w := by kernel_rfl
noncomputable def slices_Index_int_int_F (a0 a1 : Value) (w : World) (R : Value → World → Prop) : Prop :=
  IK Tryd.prog .len #[30] 3 [false] [a0] w fun x7 w => W fn_ Tryd.prog 19 (Code.loop slices_Index_int_int_L0) (blkK 0 (seqK (sx fn_ Tryd.prog 19 slices_Index_int_int_R1 (retK Tryd.prog [ResultVar.tmp 4] R)) (retK Tryd.prog [ResultVar.tmp 4] R))) (up (up (up (up (rho0 [a0, a1]) 4 (Value.int .i64 0)) 6 a0) 7 x7) 8 (Value.int .i64 0)) w
theorem slices_Index_int_int_eq (a0 a1 : Value) (w : World) (R : Value → World → Prop) : sx fn_ Tryd.prog 19 slices_Index_int_int_b (retK Tryd.prog Tryd.f61.results.toList R) (rho0 [a0, a1]) w = slices_Index_int_int_F a0 a1 w R := by kernel_rfl
theorem slices_Index_int_int_calls {a0 a1 : Value} {w : World} {R : Value → World → Prop} (h : slices_Index_int_int_F a0 a1 w R) : Calls Tryd.prog 61 #[a0, a1] w fun e w' => ∃ v, e = .returned v ∧ R v w' :=
  Go.X.calls_of_sx (n := 19) (c := slices_Index_int_int_b) Tryd.func61 (by kernel_rfl) (by kernel_rfl) (Nat.le_of_ble_eq_true rfl) (by kernel_rfl) (Eq.mpr (slices_Index_int_int_eq a0 a1 w R) h)
noncomputable def slices_Equal_int_int_b : Code := (Tryd.f62.body).getD .skip
noncomputable def slices_Equal_int_int_L0 : Code := cAt [1, 1, 0, 1, 0, 0] slices_Equal_int_int_b
noncomputable def slices_Equal_int_int_R1 : Code := cAt [1, 1, 1] slices_Equal_int_int_b
noncomputable def slices_Equal_int_int_R2 : Code := cAt [1, 1, 0, 1, 0, 0, 1, 1, 0, 0, 1, 0] slices_Equal_int_int_b
noncomputable def slices_Equal_int_int_R3 : Code := cAt [1, 1, 0, 1, 0, 0, 1, 1, 0, 0, 1, 1] slices_Equal_int_int_b
noncomputable def slices_Equal_int_int_R4 : Code := cAt [1, 1, 0, 1, 0, 0, 1, 1, 1] slices_Equal_int_int_b
noncomputable def slices_Equal_int_int_L0_F (z : At) (K : Exit → Sl → World → Prop) (ρ : Sl) (w : World) : Prop :=
  BK Tryd.prog .lss 3 (.tmp 13) (.tmp 12) (ρ 13) (ρ 12) w fun x14 w => CondK x14 (W z Tryd.prog 26 slices_Equal_int_int_R2 (seqK (sx z Tryd.prog 26 slices_Equal_int_int_R3 (blkK 1 (seqK (sx z Tryd.prog 26 slices_Equal_int_int_R4 K) K))) (blkK 1 (seqK (sx z Tryd.prog 26 slices_Equal_int_int_R4 K) K))) (up (up (up ρ 14 x14) 15 (ρ 13)) 5 (ρ 13)) w) (K (.exit 0) (up ρ 14 x14) w)
theorem slices_Equal_int_int_L0_eq (z : At) (K : Exit → Sl → World → Prop) (ρ : Sl) (w : World) : sx z Tryd.prog 26 slices_Equal_int_int_L0 K ρ w = slices_Equal_int_int_L0_F z K ρ w := by kernel_rfl
theorem slices_Equal_int_int_L0_ok : dstOk 26 slices_Equal_int_int_L0 = true := by kernel_rfl
noncomputable def slices_Equal_int_int_R1_F (z : At) (K : Exit → Sl → World → Prop) (ρ : Sl) (w : World) : Prop :=
  K .ret (up ρ 4 (Value.bool true)) w
theorem slices_Equal_int_int_R1_eq (z : At) (K : Exit → Sl → World → Prop) (ρ : Sl) (w : World) : sx z Tryd.prog 26 slices_Equal_int_int_R1 K ρ w = slices_Equal_int_int_R1_F z K ρ w := by kernel_rfl
noncomputable def slices_Equal_int_int_R2_ops : Array Oper := opsOf slices_Equal_int_int_R2
def slices_Equal_int_int_R2_Q (C : World → Prop) (K : Exit → Sl → World → Prop) (ρ : Sl) : Prop :=
  QK Tryd.prog C (do pure (Next.value (← Instr.indexAt 30 (ρ 0) (ρ 5)))) fun x18 => QK Tryd.prog C (do pure (Next.value (← Instr.loadAt 3 x18))) fun x19 => QK Tryd.prog C (do pure (Next.value (← Instr.indexAt 30 (ρ 1) (ρ 5)))) fun x22 => QK Tryd.prog C (do pure (Next.value (← Instr.loadAt 3 x22))) fun x23 => QK Tryd.prog C (do pure (Next.value (← (do eqGuard BinOp.neq 3 (Operand.tmp 19) (Operand.tmp 23) x19 x23; binOp BinOp.neq 3 x19 x23)))) fun x24 => ∀ w', C w' → K Exit.normal (up (up (up (up (up (up (up (up (up ρ 16 (ρ 0)) 17 (ρ 5)) 18 x18) 19 x19) 20 (ρ 1)) 21 (ρ 5)) 22 x22) 23 x23) 24 x24) w'
theorem slices_Equal_int_int_R2_quiet {D : List Deferred} (C : World → Prop) {K : Exit → Sl → World → Prop} {ρ : Sl} {w : World} (hC : C { w with drawn := w.drawn + 1 }) (h : slices_Equal_int_int_R2_Q C K ρ) : W ⟨none, D⟩ Tryd.prog 26 slices_Equal_int_int_R2 K ρ w := by
  have e : slices_Equal_int_int_R2 = .region (idOf slices_Equal_int_int_R2) slices_Equal_int_int_R2_ops true := by kernel_rfl
  have q : sxq Tryd.prog C slices_Equal_int_int_R2_ops (fun ρ' => ∀ w', C w' → K .normal ρ' w') slices_Equal_int_int_R2_ops.toList ρ = slices_Equal_int_int_R2_Q C K ρ := by kernel_rfl
  rw [e]
  exact W_quiet C (by kernel_rfl) (by kernel_rfl) (by kernel_rfl) hC (Eq.mpr q h)
noncomputable def slices_Equal_int_int_R3_F (z : At) (K : Exit → Sl → World → Prop) (ρ : Sl) (w : World) : Prop :=
  CondK (ρ 24) (K .ret (up ρ 4 (Value.bool false)) w) (K .normal ρ w)
theorem slices_Equal_int_int_R3_eq (z : At) (K : Exit → Sl → World → Prop) (ρ : Sl) (w : World) : sx z Tryd.prog 26 slices_Equal_int_int_R3 K ρ w = slices_Equal_int_int_R3_F z K ρ w := by kernel_rfl
noncomputable def slices_Equal_int_int_R4_F (z : At) (K : Exit → Sl → World → Prop) (ρ : Sl) (w : World) : Prop :=
  BK Tryd.prog .add 3 (.tmp 13) (.const (Value.int .i64 1)) (ρ 13) (Value.int .i64 1) w fun x25 w => K .normal (up (up ρ 25 x25) 13 x25) w
theorem slices_Equal_int_int_R4_eq (z : At) (K : Exit → Sl → World → Prop) (ρ : Sl) (w : World) : sx z Tryd.prog 26 slices_Equal_int_int_R4 K ρ w = slices_Equal_int_int_R4_F z K ρ w := by kernel_rfl
noncomputable def slices_Equal_int_int_F (a0 a1 : Value) (w : World) (R : Value → World → Prop) : Prop :=
  IK Tryd.prog .len #[30] 3 [false] [a0] w fun x7 w => IK Tryd.prog .len #[30] 3 [false] [a1] w fun x9 w => BK Tryd.prog .neq 3 (.tmp 7) (.tmp 9) x7 x9 w fun x10 w => CondK x10 (R (Value.bool false) w) (IK Tryd.prog .len #[30] 3 [false] [a0] w fun x12 w => W fn_ Tryd.prog 26 (Code.loop slices_Equal_int_int_L0) (blkK 0 (seqK (sx fn_ Tryd.prog 26 slices_Equal_int_int_R1 (retK Tryd.prog [ResultVar.tmp 4] R)) (retK Tryd.prog [ResultVar.tmp 4] R))) (up (up (up (up (up (up (up (up (up (rho0 [a0, a1]) 4 (Value.bool false)) 6 a0) 7 x7) 8 a1) 9 x9) 10 x10) 11 a0) 12 x12) 13 (Value.int .i64 0)) w)
theorem slices_Equal_int_int_eq (a0 a1 : Value) (w : World) (R : Value → World → Prop) : sx fn_ Tryd.prog 26 slices_Equal_int_int_b (retK Tryd.prog Tryd.f62.results.toList R) (rho0 [a0, a1]) w = slices_Equal_int_int_F a0 a1 w R := by kernel_rfl
theorem slices_Equal_int_int_calls {a0 a1 : Value} {w : World} {R : Value → World → Prop} (h : slices_Equal_int_int_F a0 a1 w R) : Calls Tryd.prog 62 #[a0, a1] w fun e w' => ∃ v, e = .returned v ∧ R v w' :=
  Go.X.calls_of_sx (n := 26) (c := slices_Equal_int_int_b) Tryd.func62 (by kernel_rfl) (by kernel_rfl) (Nat.le_of_ble_eq_true rfl) (by kernel_rfl) (Eq.mpr (slices_Equal_int_int_eq a0 a1 w R) h)
noncomputable def coll_rows_whole_b : Code := (Tryd.f72.body).getD .skip
noncomputable def coll_rows_whole_L0 : Code := cAt [1, 0, 1, 0, 0] coll_rows_whole_b
noncomputable def coll_rows_whole_R1 : Code := cAt [1, 1] coll_rows_whole_b
noncomputable def coll_rows_whole_L0_F (z : At) (K : Exit → Sl → World → Prop) (ρ : Sl) (w : World) : Prop :=
  BK Tryd.prog .lss 3 (.tmp 15) (.tmp 14) (ρ 15) (ρ 14) w fun x16 w => CondK x16 (CK Tryd.prog (Value.func (Fn.func 58) #[] #[]) [(ρ 0), (ρ 15), (ρ 1)] w fun x22 w => VK Tryd.prog (Instr.extract x22 0) w fun x23 w => VK Tryd.prog (Instr.extract x22 1) w fun x24 w => VK Tryd.prog (Instr.alloc 34 true (.tuple #[])) w fun x8 w => UK Tryd.prog (Instr.storeAt 34 x8 x23) w fun _ w => VK Tryd.prog (Op.unary UnOp.not x24) w fun x26 w => VG Tryd.prog x26 false (Instr.loadAt 34 x8) w fun x28 w => VG Tryd.prog x26 false (Instr.loadAt 34 (ρ 5)) w fun x29 w => CG Tryd.prog x26 false (Value.func (Fn.func 21) #[] #[]) [x28, x29] w fun x30 w => VG Tryd.prog x26 false (Op.unary UnOp.not x30) w fun x31 w => PK Tryd.prog x26 (Value.bool true) x31 w fun x32 w => CondK x32 (K .ret (up (up (up (up (up (up (up (up (up (up (up (up (up (up (up (up (up (up (up (up (up ρ 16 x16) 17 (ρ 15)) 7 (ρ 15)) 19 (ρ 0)) 20 (ρ 15)) 21 (ρ 1)) 22 x22) 18 x22) 23 x23) 24 x24) 8 x8) 9 x24) 25 x24) 26 x26) 27 x26) 28 x28) 29 x29) 30 x30) 31 x31) 32 x32) 6 (Value.bool false)) w) (BK Tryd.prog .add 3 (.tmp 15) (.const (Value.int .i64 1)) (ρ 15) (Value.int .i64 1) w fun x33 w => K .normal (up (up (up (up (up (up (up (up (up (up (up (up (up (up (up (up (up (up (up (up (up (up ρ 16 x16) 17 (ρ 15)) 7 (ρ 15)) 19 (ρ 0)) 20 (ρ 15)) 21 (ρ 1)) 22 x22) 18 x22) 23 x23) 24 x24) 8 x8) 9 x24) 25 x24) 26 x26) 27 x26) 28 x28) 29 x29) 30 x30) 31 x31) 32 x32) 33 x33) 15 x33) w)) (K (.exit 0) (up ρ 16 x16) w)
theorem coll_rows_whole_L0_eq (z : At) (K : Exit → Sl → World → Prop) (ρ : Sl) (w : World) : sx z Tryd.prog 34 coll_rows_whole_L0 K ρ w = coll_rows_whole_L0_F z K ρ w := by kernel_rfl
theorem coll_rows_whole_L0_ok : dstOk 34 coll_rows_whole_L0 = true := by kernel_rfl
noncomputable def coll_rows_whole_R1_F (z : At) (K : Exit → Sl → World → Prop) (ρ : Sl) (w : World) : Prop :=
  K .ret (up ρ 6 (Value.bool true)) w
theorem coll_rows_whole_R1_eq (z : At) (K : Exit → Sl → World → Prop) (ρ : Sl) (w : World) : sx z Tryd.prog 34 coll_rows_whole_R1 K ρ w = coll_rows_whole_R1_F z K ρ w := by kernel_rfl
noncomputable def coll_rows_whole_F (a0 a1 a2 : Value) (w : World) (R : Value → World → Prop) : Prop :=
  VK Tryd.prog (Instr.box 34 a2) w fun x5 w => NK Tryd.prog a0 w fun x11 w => VK Tryd.prog (Instr.fieldAt 82 x11 1) w fun x12 w => VK Tryd.prog (Instr.loadAt 80 x12) w fun x13 w => IK Tryd.prog .len #[80] 3 [false] [x13] w fun x14 w => W fn_ Tryd.prog 34 (Code.loop coll_rows_whole_L0) (blkK 0 (seqK (sx fn_ Tryd.prog 34 coll_rows_whole_R1 (retK Tryd.prog [ResultVar.tmp 6] R)) (retK Tryd.prog [ResultVar.tmp 6] R))) (up (up (up (up (up (up (up (up (rho0 [a0, a1, a2]) 5 x5) 6 (Value.bool false)) 10 a0) 11 x11) 12 x12) 13 x13) 14 x14) 15 (Value.int .i64 0)) w
theorem coll_rows_whole_eq (a0 a1 a2 : Value) (w : World) (R : Value → World → Prop) : sx fn_ Tryd.prog 34 coll_rows_whole_b (retK Tryd.prog Tryd.f72.results.toList R) (rho0 [a0, a1, a2]) w = coll_rows_whole_F a0 a1 a2 w R := by kernel_rfl
theorem coll_rows_whole_calls {a0 a1 a2 : Value} {w : World} {R : Value → World → Prop} (h : coll_rows_whole_F a0 a1 a2 w R) : Calls Tryd.prog 72 #[a0, a1, a2] w fun e w' => ∃ v, e = .returned v ∧ R v w' :=
  Go.X.calls_of_sx (n := 34) (c := coll_rows_whole_b) Tryd.func72 (by kernel_rfl) (by kernel_rfl) (Nat.le_of_ble_eq_true rfl) (by kernel_rfl) (Eq.mpr (coll_rows_whole_eq a0 a1 a2 w R) h)
noncomputable def coll_tellers_1_b : Code := (Tryd.f73.body).getD .skip
noncomputable def coll_tellers_1_F (a0 : Value) (w : World) (R : Value → World → Prop) : Prop :=
  VK Tryd.prog (Instr.box 110 a0) w fun x1 w => VK Tryd.prog (Instr.alloc 57 true (.tuple #[])) w fun x2 w => VK Tryd.prog (Instr.build 57 [].toArray) w fun x3 w => UK Tryd.prog (Instr.storeAt 57 x2 x3) w fun _ w => ∃ x2_1, (do loadVar 57 (← asAddr x2) : Sem Value).run Tryd.prog w = .ok x2_1 w ∧ R x2_1 w
theorem coll_tellers_1_eq (a0 : Value) (w : World) (R : Value → World → Prop) : sx fn_ Tryd.prog 4 coll_tellers_1_b (retK Tryd.prog Tryd.f73.results.toList R) (rho0 [a0]) w = coll_tellers_1_F a0 w R := by kernel_rfl
theorem coll_tellers_1_calls {a0 : Value} {w : World} {R : Value → World → Prop} (h : coll_tellers_1_F a0 w R) : Calls Tryd.prog 73 #[a0] w fun e w' => ∃ v, e = .returned v ∧ R v w' :=
  Go.X.calls_of_sx (n := 4) (c := coll_tellers_1_b) Tryd.func73 (by kernel_rfl) (by kernel_rfl) (Nat.le_of_ble_eq_true rfl) (by kernel_rfl) (Eq.mpr (coll_tellers_1_eq a0 w R) h)
noncomputable def coll_tellers_2_b : Code := (Tryd.f74.body).getD .skip
noncomputable def coll_tellers_2_F (a0 : Value) (w : World) (R : Value → World → Prop) : Prop :=
  VK Tryd.prog (Instr.box 110 a0) w fun x1 w => VK Tryd.prog (Instr.alloc 57 true (.tuple #[])) w fun x2 w => VK Tryd.prog (Instr.fieldAt 110 x1 0) w fun x6 w => VK Tryd.prog (Instr.loadAt 76 x6) w fun x7 w => VK Tryd.prog (Instr.fieldAt 110 x1 3) w fun x8 w => VK Tryd.prog (Instr.fieldAt 34 x8 1) w fun x9 w => VK Tryd.prog (Instr.loadAt 3 x9) w fun x10 w => VK Tryd.prog (Instr.fieldAt 110 x1 2) w fun x11 w => VK Tryd.prog (Instr.loadAt 3 x11) w fun x12 w => CK Tryd.prog (Value.func (Fn.func 58) #[] #[]) [x7, x10, x12] w fun x13 w => VK Tryd.prog (Instr.extract x13 0) w fun x14 w => VK Tryd.prog (Instr.extract x13 1) w fun x15 w => VK Tryd.prog (Instr.alloc 34 true (.tuple #[])) w fun x3 w => UK Tryd.prog (Instr.storeAt 34 x3 x14) w fun _ w => VK Tryd.prog (Instr.fieldAt 34 x3 3) w fun x16 w => VK Tryd.prog (Instr.loadAt 2 x16) w fun x17 w => VK Tryd.prog (Instr.build 57 [(0, x17)].toArray) w fun x18 w => UK Tryd.prog (Instr.storeAt 57 x2 x18) w fun _ w => ∃ x2_1, (do loadVar 57 (← asAddr x2) : Sem Value).run Tryd.prog w = .ok x2_1 w ∧ R x2_1 w
theorem coll_tellers_2_eq (a0 : Value) (w : World) (R : Value → World → Prop) : sx fn_ Tryd.prog 19 coll_tellers_2_b (retK Tryd.prog Tryd.f74.results.toList R) (rho0 [a0]) w = coll_tellers_2_F a0 w R := by kernel_rfl
theorem coll_tellers_2_calls {a0 : Value} {w : World} {R : Value → World → Prop} (h : coll_tellers_2_F a0 w R) : Calls Tryd.prog 74 #[a0] w fun e w' => ∃ v, e = .returned v ∧ R v w' :=
  Go.X.calls_of_sx (n := 19) (c := coll_tellers_2_b) Tryd.func74 (by kernel_rfl) (by kernel_rfl) (Nat.le_of_ble_eq_true rfl) (by kernel_rfl) (Eq.mpr (coll_tellers_2_eq a0 w R) h)
noncomputable def coll_tellers_3_b : Code := (Tryd.f75.body).getD .skip
noncomputable def coll_tellers_3_F (a0 : Value) (w : World) (R : Value → World → Prop) : Prop :=
  VK Tryd.prog (Instr.box 110 a0) w fun x1 w => VK Tryd.prog (Instr.alloc 57 true (.tuple #[])) w fun x2 w => VK Tryd.prog (Instr.fieldAt 110 x1 1) w fun x3 w => VK Tryd.prog (Instr.loadAt 3 x3) w fun x4 w => VK Tryd.prog (Instr.fieldAt 110 x1 3) w fun x5 w => VK Tryd.prog (Instr.fieldAt 34 x5 1) w fun x6 w => VK Tryd.prog (Instr.loadAt 3 x6) w fun x7 w => BK Tryd.prog .neq 3 (.tmp 4) (.tmp 7) x4 x7 w fun x8 w => CondK x8 (VK Tryd.prog (Instr.build 57 [].toArray) w fun x9 w => UK Tryd.prog (Instr.storeAt 57 x2 x9) w fun _ w => ∃ x2_1, (do loadVar 57 (← asAddr x2) : Sem Value).run Tryd.prog w = .ok x2_1 w ∧ R x2_1 w) (VK Tryd.prog (Instr.loadAt 110 x1) w fun x10 w => CK Tryd.prog (Value.func (Fn.func 76) #[] #[]) [x10] w fun x11 w => VK Tryd.prog (Instr.build 57 [(0, x11)].toArray) w fun x12 w => UK Tryd.prog (Instr.storeAt 57 x2 x12) w fun _ w => ∃ x2_2, (do loadVar 57 (← asAddr x2) : Sem Value).run Tryd.prog w = .ok x2_2 w ∧ R x2_2 w)
theorem coll_tellers_3_eq (a0 : Value) (w : World) (R : Value → World → Prop) : sx fn_ Tryd.prog 13 coll_tellers_3_b (retK Tryd.prog Tryd.f75.results.toList R) (rho0 [a0]) w = coll_tellers_3_F a0 w R := by kernel_rfl
theorem coll_tellers_3_calls {a0 : Value} {w : World} {R : Value → World → Prop} (h : coll_tellers_3_F a0 w R) : Calls Tryd.prog 75 #[a0] w fun e w' => ∃ v, e = .returned v ∧ R v w' :=
  Go.X.calls_of_sx (n := 13) (c := coll_tellers_3_b) Tryd.func75 (by kernel_rfl) (by kernel_rfl) (Nat.le_of_ble_eq_true rfl) (by kernel_rfl) (Eq.mpr (coll_tellers_3_eq a0 w R) h)
noncomputable def coll_asked_reduced_b : Code := (Tryd.f76.body).getD .skip
noncomputable def coll_asked_reduced_L0 : Code := cAt [1, 1, 1, 0, 1, 0, 0] coll_asked_reduced_b
noncomputable def coll_asked_reduced_R1 : Code := cAt [1, 1, 1, 1] coll_asked_reduced_b
noncomputable def coll_asked_reduced_R2 : Code := cAt [1, 1, 1, 0, 1, 0, 0, 1, 1, 1] coll_asked_reduced_b
noncomputable def coll_asked_reduced_L0_F (z : At) (K : Exit → Sl → World → Prop) (ρ : Sl) (w : World) : Prop :=
  BK Tryd.prog .lss 3 (.tmp 15) (.tmp 14) (ρ 15) (ρ 14) w fun x16 w => CondK x16 (VK Tryd.prog (Instr.indexAt 55 (ρ 13) (ρ 15)) w fun x17 w => VK Tryd.prog (Instr.loadAt 2 x17) w fun x18 w => VK Tryd.prog (Instr.fieldAt 110 (ρ 1) 3) w fun x19 w => VK Tryd.prog (Instr.fieldAt 34 x19 2) w fun x20 w => VK Tryd.prog (Instr.loadAt 5 x20) w fun x21 w => BK Tryd.prog .eql 5 (.tmp 21) (.const (Value.int .u8 0)) x21 (Value.int .u8 0) w fun x26 w => CondK x26 (BK Tryd.prog .add 2 (.tmp 27) (.tmp 28) (ρ 4) x18 w fun x29 w => sx z Tryd.prog 37 coll_asked_reduced_R2 K (up (up (up (up (up (up (up (up (up (up (up (up (up ρ 16 x16) 17 x17) 18 x18) 6 x18) 19 x19) 20 x20) 21 x21) 26 x26) 25 x26) 27 (ρ 4)) 28 x18) 29 x29) 4 x29) w) (BK Tryd.prog .eql 5 (.tmp 21) (.const (Value.int .u8 1)) x21 (Value.int .u8 1) w fun x31 w => CondK x31 (IK Tryd.prog .max #[2, 2] 2 [false, false] [(ρ 4), x18] w fun x34 w => sx z Tryd.prog 37 coll_asked_reduced_R2 K (up (up (up (up (up (up (up (up (up (up (up (up (up (up (up ρ 16 x16) 17 x17) 18 x18) 6 x18) 19 x19) 20 x20) 21 x21) 26 x26) 25 x26) 31 x31) 30 x31) 32 (ρ 4)) 33 x18) 34 x34) 4 x34) w) (IK Tryd.prog .min #[2, 2] 2 [false, false] [(ρ 4), x18] w fun x24 w => sx z Tryd.prog 37 coll_asked_reduced_R2 K (up (up (up (up (up (up (up (up (up (up (up (up (up (up (up ρ 16 x16) 17 x17) 18 x18) 6 x18) 19 x19) 20 x20) 21 x21) 26 x26) 25 x26) 31 x31) 30 x31) 22 (ρ 4)) 23 x18) 24 x24) 4 x24) w))) (K (.exit 0) (up ρ 16 x16) w)
theorem coll_asked_reduced_L0_eq (z : At) (K : Exit → Sl → World → Prop) (ρ : Sl) (w : World) : sx z Tryd.prog 37 coll_asked_reduced_L0 K ρ w = coll_asked_reduced_L0_F z K ρ w := by kernel_rfl
theorem coll_asked_reduced_L0_ok : dstOk 37 coll_asked_reduced_L0 = true := by kernel_rfl
noncomputable def coll_asked_reduced_R1_F (z : At) (K : Exit → Sl → World → Prop) (ρ : Sl) (w : World) : Prop :=
  K .ret (up (up ρ 36 (ρ 4)) 2 (ρ 4)) w
theorem coll_asked_reduced_R1_eq (z : At) (K : Exit → Sl → World → Prop) (ρ : Sl) (w : World) : sx z Tryd.prog 37 coll_asked_reduced_R1 K ρ w = coll_asked_reduced_R1_F z K ρ w := by kernel_rfl
noncomputable def coll_asked_reduced_R2_F (z : At) (K : Exit → Sl → World → Prop) (ρ : Sl) (w : World) : Prop :=
  BK Tryd.prog .add 3 (.tmp 15) (.const (Value.int .i64 1)) (ρ 15) (Value.int .i64 1) w fun x35 w => K .normal (up (up ρ 35 x35) 15 x35) w
theorem coll_asked_reduced_R2_eq (z : At) (K : Exit → Sl → World → Prop) (ρ : Sl) (w : World) : sx z Tryd.prog 37 coll_asked_reduced_R2 K ρ w = coll_asked_reduced_R2_F z K ρ w := by kernel_rfl
noncomputable def coll_asked_reduced_F (a0 : Value) (w : World) (R : Value → World → Prop) : Prop :=
  VK Tryd.prog (Instr.box 110 a0) w fun x1 w => VK Tryd.prog (Instr.loadAt 110 x1) w fun x7 w => CK Tryd.prog (Value.func (Fn.func 79) #[] #[]) [x7] w fun x8 w => VK Tryd.prog (Instr.indexAt 55 x8 (Value.int .i64 0)) w fun x10 w => VK Tryd.prog (Instr.loadAt 2 x10) w fun x11 w => VK Tryd.prog (Instr.sliceAt 55 x8 (some (Value.int .i64 1)) none none) w fun x13 w => IK Tryd.prog .len #[55] 3 [false] [x13] w fun x14 w => W fn_ Tryd.prog 37 (Code.loop coll_asked_reduced_L0) (blkK 0 (seqK (sx fn_ Tryd.prog 37 coll_asked_reduced_R1 (retK Tryd.prog [ResultVar.tmp 2] R)) (retK Tryd.prog [ResultVar.tmp 2] R))) (up (up (up (up (up (up (up (up (up (up (up (up (up (rho0 [a0]) 1 x1) 2 (Value.int .i64 0)) 7 x7) 8 x8) 3 x8) 9 x8) 10 x10) 11 x11) 4 x11) 12 x8) 13 x13) 14 x14) 15 (Value.int .i64 0)) w
theorem coll_asked_reduced_eq (a0 : Value) (w : World) (R : Value → World → Prop) : sx fn_ Tryd.prog 37 coll_asked_reduced_b (retK Tryd.prog Tryd.f76.results.toList R) (rho0 [a0]) w = coll_asked_reduced_F a0 w R := by kernel_rfl
theorem coll_asked_reduced_calls {a0 : Value} {w : World} {R : Value → World → Prop} (h : coll_asked_reduced_F a0 w R) : Calls Tryd.prog 76 #[a0] w fun e w' => ∃ v, e = .returned v ∧ R v w' :=
  Go.X.calls_of_sx (n := 37) (c := coll_asked_reduced_b) Tryd.func76 (by kernel_rfl) (by kernel_rfl) (Nat.le_of_ble_eq_true rfl) (by kernel_rfl) (Eq.mpr (coll_asked_reduced_eq a0 w R) h)
noncomputable def coll_tellers_4_b : Code := (Tryd.f77.body).getD .skip
noncomputable def coll_tellers_4_F (a0 : Value) (w : World) (R : Value → World → Prop) : Prop :=
  VK Tryd.prog (Instr.box 110 a0) w fun x1 w => VK Tryd.prog (Instr.alloc 57 true (.tuple #[])) w fun x2 w => VK Tryd.prog (Instr.loadAt 110 x1) w fun x3 w => CK Tryd.prog (Value.func (Fn.func 76) #[] #[]) [x3] w fun x4 w => VK Tryd.prog (Instr.build 57 [(0, x4)].toArray) w fun x5 w => UK Tryd.prog (Instr.storeAt 57 x2 x5) w fun _ w => ∃ x2_1, (do loadVar 57 (← asAddr x2) : Sem Value).run Tryd.prog w = .ok x2_1 w ∧ R x2_1 w
theorem coll_tellers_4_eq (a0 : Value) (w : World) (R : Value → World → Prop) : sx fn_ Tryd.prog 6 coll_tellers_4_b (retK Tryd.prog Tryd.f77.results.toList R) (rho0 [a0]) w = coll_tellers_4_F a0 w R := by kernel_rfl
theorem coll_tellers_4_calls {a0 : Value} {w : World} {R : Value → World → Prop} (h : coll_tellers_4_F a0 w R) : Calls Tryd.prog 77 #[a0] w fun e w' => ∃ v, e = .returned v ∧ R v w' :=
  Go.X.calls_of_sx (n := 6) (c := coll_tellers_4_b) Tryd.func77 (by kernel_rfl) (by kernel_rfl) (Nat.le_of_ble_eq_true rfl) (by kernel_rfl) (Eq.mpr (coll_tellers_4_eq a0 w R) h)
noncomputable def coll_tellers_5_b : Code := (Tryd.f78.body).getD .skip
noncomputable def coll_tellers_5_F (a0 : Value) (w : World) (R : Value → World → Prop) : Prop :=
  VK Tryd.prog (Instr.box 110 a0) w fun x1 w => VK Tryd.prog (Instr.alloc 57 true (.tuple #[])) w fun x2 w => VK Tryd.prog (Instr.fieldAt 110 x1 1) w fun x3 w => VK Tryd.prog (Instr.loadAt 3 x3) w fun x4 w => VK Tryd.prog (Instr.fieldAt 110 x1 3) w fun x5 w => VK Tryd.prog (Instr.fieldAt 34 x5 1) w fun x6 w => VK Tryd.prog (Instr.loadAt 3 x6) w fun x7 w => BK Tryd.prog .neq 3 (.tmp 4) (.tmp 7) x4 x7 w fun x8 w => CondK x8 (VK Tryd.prog (Instr.build 57 [].toArray) w fun x9 w => UK Tryd.prog (Instr.storeAt 57 x2 x9) w fun _ w => ∃ x2_1, (do loadVar 57 (← asAddr x2) : Sem Value).run Tryd.prog w = .ok x2_1 w ∧ R x2_1 w) (VK Tryd.prog (Instr.loadAt 110 x1) w fun x10 w => CK Tryd.prog (Value.func (Fn.func 79) #[] #[]) [x10] w fun x11 w => VK Tryd.prog (Instr.build 57 [(1, x11)].toArray) w fun x12 w => UK Tryd.prog (Instr.storeAt 57 x2 x12) w fun _ w => ∃ x2_2, (do loadVar 57 (← asAddr x2) : Sem Value).run Tryd.prog w = .ok x2_2 w ∧ R x2_2 w)
theorem coll_tellers_5_eq (a0 : Value) (w : World) (R : Value → World → Prop) : sx fn_ Tryd.prog 13 coll_tellers_5_b (retK Tryd.prog Tryd.f78.results.toList R) (rho0 [a0]) w = coll_tellers_5_F a0 w R := by kernel_rfl
theorem coll_tellers_5_calls {a0 : Value} {w : World} {R : Value → World → Prop} (h : coll_tellers_5_F a0 w R) : Calls Tryd.prog 78 #[a0] w fun e w' => ∃ v, e = .returned v ∧ R v w' :=
  Go.X.calls_of_sx (n := 13) (c := coll_tellers_5_b) Tryd.func78 (by kernel_rfl) (by kernel_rfl) (Nat.le_of_ble_eq_true rfl) (by kernel_rfl) (Eq.mpr (coll_tellers_5_eq a0 w R) h)
noncomputable def coll_asked_values_b : Code := (Tryd.f79.body).getD .skip
noncomputable def coll_asked_values_L0 : Code := cAt [1, 1, 0, 1, 0, 0] coll_asked_values_b
noncomputable def coll_asked_values_R1 : Code := cAt [1, 1, 1] coll_asked_values_b
noncomputable def coll_asked_values_L0_F (z : At) (K : Exit → Sl → World → Prop) (ρ : Sl) (w : World) : Prop :=
  BK Tryd.prog .lss 3 (.tmp 13) (.tmp 12) (ρ 13) (ρ 12) w fun x14 w => CondK x14 (VK Tryd.prog (Instr.fieldAt 110 (ρ 1) 0) w fun x17 w => VK Tryd.prog (Instr.loadAt 76 x17) w fun x18 w => VK Tryd.prog (Instr.fieldAt 110 (ρ 1) 2) w fun x20 w => VK Tryd.prog (Instr.loadAt 3 x20) w fun x21 w => CK Tryd.prog (Value.func (Fn.func 58) #[] #[]) [x18, (ρ 13), x21] w fun x22 w => VK Tryd.prog (Instr.extract x22 0) w fun x23 w => VK Tryd.prog (Instr.extract x22 1) w fun x24 w => VK Tryd.prog (Instr.alloc 34 true (.tuple #[])) w fun x5 w => UK Tryd.prog (Instr.storeAt 34 x5 x23) w fun _ w => VK Tryd.prog (Instr.fieldAt 34 x5 3) w fun x26 w => VK Tryd.prog (Instr.loadAt 2 x26) w fun x27 w => VK Tryd.prog (Instr.buildSlice 55 1 [(0, x27)].toArray) w fun x28 w => IK Tryd.prog .append #[55, 55] 55 [false, false] [(ρ 3), x28] w fun x29 w => BK Tryd.prog .add 3 (.tmp 13) (.const (Value.int .i64 1)) (ρ 13) (Value.int .i64 1) w fun x30 w => K .normal (up (up (up (up (up (up (up (up (up (up (up (up (up (up (up (up (up (up (up (up (up (up ρ 14 x14) 15 (ρ 13)) 4 (ρ 13)) 17 x17) 18 x18) 19 (ρ 13)) 20 x20) 21 x21) 22 x22) 16 x22) 23 x23) 24 x24) 5 x5) 6 x24) 25 (ρ 3)) 26 x26) 27 x27) 28 x28) 29 x29) 3 x29) 30 x30) 13 x30) w) (K (.exit 0) (up ρ 14 x14) w)
theorem coll_asked_values_L0_eq (z : At) (K : Exit → Sl → World → Prop) (ρ : Sl) (w : World) : sx z Tryd.prog 32 coll_asked_values_L0 K ρ w = coll_asked_values_L0_F z K ρ w := by kernel_rfl
theorem coll_asked_values_L0_ok : dstOk 32 coll_asked_values_L0 = true := by kernel_rfl
noncomputable def coll_asked_values_R1_F (z : At) (K : Exit → Sl → World → Prop) (ρ : Sl) (w : World) : Prop :=
  K .ret (up (up ρ 31 (ρ 3)) 2 (ρ 3)) w
theorem coll_asked_values_R1_eq (z : At) (K : Exit → Sl → World → Prop) (ρ : Sl) (w : World) : sx z Tryd.prog 32 coll_asked_values_R1 K ρ w = coll_asked_values_R1_F z K ρ w := by kernel_rfl
noncomputable def coll_asked_values_F (a0 : Value) (w : World) (R : Value → World → Prop) : Prop :=
  VK Tryd.prog (Instr.box 110 a0) w fun x1 w => VK Tryd.prog (Instr.fieldAt 110 x1 0) w fun x7 w => VK Tryd.prog (Instr.loadAt 76 x7) w fun x8 w => NK Tryd.prog x8 w fun x9 w => VK Tryd.prog (Instr.fieldAt 82 x9 1) w fun x10 w => VK Tryd.prog (Instr.loadAt 80 x10) w fun x11 w => IK Tryd.prog .len #[80] 3 [false] [x11] w fun x12 w => W fn_ Tryd.prog 32 (Code.loop coll_asked_values_L0) (blkK 0 (seqK (sx fn_ Tryd.prog 32 coll_asked_values_R1 (retK Tryd.prog [ResultVar.tmp 2] R)) (retK Tryd.prog [ResultVar.tmp 2] R))) (up (up (up (up (up (up (up (up (up (up (rho0 [a0]) 1 x1) 2 (Value.slice none 0 0)) 3 (Value.slice none 0 0)) 7 x7) 8 x8) 9 x9) 10 x10) 11 x11) 12 x12) 13 (Value.int .i64 0)) w
theorem coll_asked_values_eq (a0 : Value) (w : World) (R : Value → World → Prop) : sx fn_ Tryd.prog 32 coll_asked_values_b (retK Tryd.prog Tryd.f79.results.toList R) (rho0 [a0]) w = coll_asked_values_F a0 w R := by kernel_rfl
theorem coll_asked_values_calls {a0 : Value} {w : World} {R : Value → World → Prop} (h : coll_asked_values_F a0 w R) : Calls Tryd.prog 79 #[a0] w fun e w' => ∃ v, e = .returned v ∧ R v w' :=
  Go.X.calls_of_sx (n := 32) (c := coll_asked_values_b) Tryd.func79 (by kernel_rfl) (by kernel_rfl) (Nat.le_of_ble_eq_true rfl) (by kernel_rfl) (Eq.mpr (coll_asked_values_eq a0 w R) h)
noncomputable def coll_tellers_6_b : Code := (Tryd.f80.body).getD .skip
noncomputable def coll_tellers_6_R0 : Code := cAt [1, 0] coll_tellers_6_b
noncomputable def coll_tellers_6_R1 : Code := cAt [1, 1] coll_tellers_6_b
noncomputable def coll_tellers_6_R0_ops : Array Oper := opsOf coll_tellers_6_R0
def coll_tellers_6_R0_H (S : World → Prop) (K : Exit → Sl → World → Prop) (ρ : Sl) (w : World) : Prop :=
  HK Tryd.prog S (do pure (Next.value (← Instr.fieldAt 110 (ρ 1) 0))) fun x6 => HK Tryd.prog S (do pure (Next.value (← Instr.loadAt 76 x6))) fun x7 => HK Tryd.prog S (nilCk x7) fun x8 => HK Tryd.prog S (do pure (Next.value (← Instr.fieldAt 82 x8 0))) fun x9 => HK Tryd.prog S (do pure (Next.value (← Instr.loadAt 32 x9))) fun x10 => HK Tryd.prog S (do pure (Next.value (← Instr.fieldAt 110 (ρ 1) 2))) fun x11 => HK Tryd.prog S (do pure (Next.value (← Instr.loadAt 3 x11))) fun x12 => (CK Tryd.prog (Value.func (Fn.func 81) #[] #[]) [x10, x12] w fun x13 w => S w ∧ (HK Tryd.prog S (do pure (Next.value (← Instr.extract x13 0))) fun x14 => HK Tryd.prog S (do pure (Next.value (← Instr.extract x13 1))) fun x15 => VK Tryd.prog (Instr.alloc 32 true (.tuple #[])) w fun x3 w => S w ∧ (UK Tryd.prog (Instr.storeAt 32 x3 x14) w fun _ w => S w ∧ (K Exit.normal (up (up (up (up (up (up (up (up (up (up (up (up (up ρ 6 x6) 7 x7) 8 x8) 9 x9) 10 x10) 11 x11) 12 x12) 13 x13) 5 x13) 14 x14) 15 x15) 3 x3) 4 x15) w)))) ∧ (VK Tryd.prog (Instr.alloc 32 true (.tuple #[])) w fun x3_1 w => S w ∧ (CK Tryd.prog (Value.func (Fn.func 81) #[] #[]) [x10, x12] w fun x13_1 w => S w ∧ (HK Tryd.prog S (do pure (Next.value (← Instr.extract x13_1 0))) fun x14_1 => HK Tryd.prog S (do pure (Next.value (← Instr.extract x13_1 1))) fun x15_1 => UK Tryd.prog (Instr.storeAt 32 x3_1 x14_1) w fun _ w => S w ∧ (K Exit.normal (up (up (up (up (up (up (up (up (up (up (up (up (up ρ 6 x6) 7 x7) 8 x8) 9 x9) 10 x10) 11 x11) 12 x12) 3 x3_1) 13 x13_1) 5 x13_1) 14 x14_1) 15 x15_1) 4 x15_1) w))))
theorem coll_tellers_6_R0_held {D : List Deferred} (S : World → Prop) {K : Exit → Sl → World → Prop} {ρ : Sl} {w : World} (hS : S { w with drawn := w.drawn + 1 }) (h : coll_tellers_6_R0_H S K ρ { w with drawn := w.drawn + 1 }) : W ⟨none, D⟩ Tryd.prog 20 coll_tellers_6_R0 K ρ w := by
  have e : coll_tellers_6_R0 = .region (idOf coll_tellers_6_R0) coll_tellers_6_R0_ops true := by kernel_rfl
  have q : sxd Tryd.prog S coll_tellers_6_R0_ops (K .normal) (Pd.take 0 (Pd.take 1 (Pd.take 2 (Pd.take 3 (Pd.take 4 (Pd.take 5 (Pd.take 6 (Pd.two false false 7 11 (Pd.take 8 (Pd.take 9 (Pd.take 10 (Pd.only false 11 (Pd.only false 12 (Pd.take 13 Pd.done)))))) (Pd.only false 7 (Pd.take 8 (Pd.take 9 (Pd.take 10 (Pd.only false 12 (Pd.take 13 Pd.done)))))))))))))) ρ { w with drawn := w.drawn + 1 } = coll_tellers_6_R0_H S K ρ { w with drawn := w.drawn + 1 } := by kernel_rfl
  rw [e]
  exact W_pland S (Pd.take 0 (Pd.take 1 (Pd.take 2 (Pd.take 3 (Pd.take 4 (Pd.take 5 (Pd.take 6 (Pd.two false false 7 11 (Pd.take 8 (Pd.take 9 (Pd.take 10 (Pd.only false 11 (Pd.only false 12 (Pd.take 13 Pd.done)))))) (Pd.only false 7 (Pd.take 8 (Pd.take 9 (Pd.take 10 (Pd.only false 12 (Pd.take 13 Pd.done)))))))))))))) (by kernel_rfl) (by kernel_rfl) (by kernel_rfl) (by kernel_rfl) hS (Eq.mpr q h)
noncomputable def coll_tellers_6_R1_F (z : At) (K : Exit → Sl → World → Prop) (ρ : Sl) (w : World) : Prop :=
  VK Tryd.prog (Instr.loadAt 32 (ρ 3)) w fun x16 w => BK Tryd.prog .eql 37 (.tmp 17) (.const (Value.int .i64 0)) (ρ 4) (Value.int .i64 0) w fun x18 w => VK Tryd.prog (Instr.build 57 [(2, x16), (3, x18)].toArray) w fun x19 w => UK Tryd.prog (Instr.storeAt 57 (ρ 2) x19) w fun _ w => K .ret (up (up (up (up ρ 16 x16) 17 (ρ 4)) 18 x18) 19 x19) w
theorem coll_tellers_6_R1_eq (z : At) (K : Exit → Sl → World → Prop) (ρ : Sl) (w : World) : sx z Tryd.prog 20 coll_tellers_6_R1 K ρ w = coll_tellers_6_R1_F z K ρ w := by kernel_rfl
noncomputable def coll_tellers_6_F (a0 : Value) (w : World) (R : Value → World → Prop) : Prop :=
  VK Tryd.prog (Instr.box 110 a0) w fun x1 w => VK Tryd.prog (Instr.alloc 57 true (.tuple #[])) w fun x2 w => W fn_ Tryd.prog 20 coll_tellers_6_R0 (seqK (sx fn_ Tryd.prog 20 coll_tellers_6_R1 (retK Tryd.prog [ResultVar.cell 2 57] R)) (retK Tryd.prog [ResultVar.cell 2 57] R)) (up (up (rho0 [a0]) 1 x1) 2 x2) w
theorem coll_tellers_6_eq (a0 : Value) (w : World) (R : Value → World → Prop) : sx fn_ Tryd.prog 20 coll_tellers_6_b (retK Tryd.prog Tryd.f80.results.toList R) (rho0 [a0]) w = coll_tellers_6_F a0 w R := by kernel_rfl
theorem coll_tellers_6_calls {a0 : Value} {w : World} {R : Value → World → Prop} (h : coll_tellers_6_F a0 w R) : Calls Tryd.prog 80 #[a0] w fun e w' => ∃ v, e = .returned v ∧ R v w' :=
  Go.X.calls_of_sx (n := 20) (c := coll_tellers_6_b) Tryd.func80 (by kernel_rfl) (by kernel_rfl) (Nat.le_of_ble_eq_true rfl) (by kernel_rfl) (Eq.mpr (coll_tellers_6_eq a0 w R) h)
noncomputable def group_Dup_b : Code := (Tryd.f81.body).getD .skip
noncomputable def group_Dup_R0 : Code := cAt [1, 1, 0] group_Dup_b
noncomputable def group_Dup_R1 : Code := cAt [1, 1, 1] group_Dup_b
noncomputable def group_Dup_R0_ops : Array Oper := opsOf group_Dup_R0
def group_Dup_R0_H (S : World → Prop) (K : Exit → Sl → World → Prop) (ρ : Sl) (w : World) : Prop :=
  HK Tryd.prog S (do pure (Next.value (← Instr.loadAt 32 (ρ 2)))) fun x14_1 => HK Tryd.prog S (do pure (Next.value (← Instr.fieldAt 32 (ρ 2) 1))) fun x17_1 => HK Tryd.prog S (do pure (Next.value (← Instr.loadAt 30 x17_1))) fun x18_1 => CK Tryd.prog (Value.func (Fn.func 87) #[] #[]) [x14_1, (ρ 1)] w fun x16_1 w => S w ∧ (CK Tryd.prog (Value.func (Fn.func 38) #[] #[]) [x18_1] w fun x19_1 w => S w ∧ (HK Tryd.prog S (do pure (Next.value (← Instr.build 32 [(0, x16_1), (1, x19_1)].toArray))) fun x20_1 => UK Tryd.prog (Instr.storeAt 32 (ρ 4) x20_1) w fun _ w => S w ∧ (K Exit.normal (up (up (up (up (up (up (up (up ρ 14 x14_1) 15 (ρ 1)) 17 x17_1) 18 x18_1) 16 x16_1) 19 x19_1) 20 x20_1) 5 (Value.int IntKind.i64 0)) w)))
theorem group_Dup_R0_held {D : List Deferred} (S : World → Prop) {K : Exit → Sl → World → Prop} {ρ : Sl} {w : World} (hS : S { w with drawn := w.drawn + 1 }) (h : group_Dup_R0_H S K ρ { w with drawn := w.drawn + 1 }) : W ⟨none, D⟩ Tryd.prog 21 group_Dup_R0 K ρ w := by
  have e : group_Dup_R0 = .region (idOf group_Dup_R0) group_Dup_R0_ops true := by kernel_rfl
  have q : sxh Tryd.prog S group_Dup_R0_ops (K .normal) [(0, true), (1, true), (3, true), (4, true), (2, false), (5, false), (6, true), (7, false), (8, true)] ρ { w with drawn := w.drawn + 1 } = group_Dup_R0_H S K ρ { w with drawn := w.drawn + 1 } := by kernel_rfl
  rw [e]
  exact W_held S [(0, true), (1, true), (3, true), (4, true), (2, false), (5, false), (6, true), (7, false), (8, true)] (by kernel_rfl) (by kernel_rfl) (by kernel_rfl) (by kernel_rfl) hS (Eq.mpr q h)
noncomputable def group_Dup_R1_F (z : At) (K : Exit → Sl → World → Prop) (ρ : Sl) (w : World) : Prop :=
  K .ret ρ w
theorem group_Dup_R1_eq (z : At) (K : Exit → Sl → World → Prop) (ρ : Sl) (w : World) : sx z Tryd.prog 21 group_Dup_R1 K ρ w = group_Dup_R1_F z K ρ w := by kernel_rfl
noncomputable def group_Dup_F (a0 a1 : Value) (w : World) (R : Value → World → Prop) : Prop :=
  VK Tryd.prog (Instr.box 32 a0) w fun x2 w => VK Tryd.prog (Instr.alloc 32 true (.tuple #[])) w fun x4 w => VK Tryd.prog (Instr.loadAt 32 x2) w fun x6 w => CK Tryd.prog (Value.func (Fn.func 36) #[] #[]) [x6] w fun x7 w => VK Tryd.prog (Op.unary UnOp.not x7) w fun x8 w => MG Tryd.prog x8 false a1 w fun x10 w => BG Tryd.prog x8 false .lss 3 (.tmp 10) (.const (Value.int .i64 0)) x10 (Value.int .i64 0) w fun x11 w => PK Tryd.prog x8 (Value.bool true) x11 w fun x12 w => CondK x12 (VK Tryd.prog (Instr.build 32 [].toArray) w fun x13 w => UK Tryd.prog (Instr.storeAt 32 x4 x13) w fun _ w => ∃ x4_1, (do loadVar 32 (← asAddr x4) : Sem Value).run Tryd.prog w = .ok x4_1 w ∧ R (Value.tuple #[x4_1, (Value.int .i64 2)]) w) (W fn_ Tryd.prog 21 group_Dup_R0 (seqK (sx fn_ Tryd.prog 21 group_Dup_R1 (retK Tryd.prog [ResultVar.cell 4 32, ResultVar.tmp 5] R)) (retK Tryd.prog [ResultVar.cell 4 32, ResultVar.tmp 5] R)) (up (up (up (up (up (up (up (up (up (up (rho0 [a0, a1]) 2 x2) 4 x4) 5 (Value.int .i64 0)) 6 x6) 7 x7) 8 x8) 9 x8) 10 x10) 11 x11) 12 x12) w)
theorem group_Dup_eq (a0 a1 : Value) (w : World) (R : Value → World → Prop) : sx fn_ Tryd.prog 21 group_Dup_b (retK Tryd.prog Tryd.f81.results.toList R) (rho0 [a0, a1]) w = group_Dup_F a0 a1 w R := by kernel_rfl
theorem group_Dup_calls {a0 a1 : Value} {w : World} {R : Value → World → Prop} (h : group_Dup_F a0 a1 w R) : Calls Tryd.prog 81 #[a0, a1] w fun e w' => ∃ v, e = .returned v ∧ R v w' :=
  Go.X.calls_of_sx (n := 21) (c := group_Dup_b) Tryd.func81 (by kernel_rfl) (by kernel_rfl) (Nat.le_of_ble_eq_true rfl) (by kernel_rfl) (Eq.mpr (group_Dup_eq a0 a1 w R) h)
noncomputable def coll_asked_split_b : Code := (Tryd.f82.body).getD .skip
noncomputable def coll_asked_split_L0 : Code := cAt [1, 1, 0, 1, 0, 0] coll_asked_split_b
noncomputable def coll_asked_split_R1 : Code := cAt [1, 1, 1] coll_asked_split_b
noncomputable def coll_asked_split_R2 : Code := cAt [1, 1, 1, 0] coll_asked_split_b
noncomputable def coll_asked_split_R3 : Code := cAt [1, 1, 1, 1] coll_asked_split_b
noncomputable def coll_asked_split_L4 : Code := cAt [1, 1, 1, 1, 0, 1, 0, 0] coll_asked_split_b
noncomputable def coll_asked_split_R5 : Code := cAt [1, 1, 1, 1, 1] coll_asked_split_b
noncomputable def coll_asked_split_L0_F (z : At) (K : Exit → Sl → World → Prop) (ρ : Sl) (w : World) : Prop :=
  BK Tryd.prog .lss 3 (.tmp 19) (.tmp 18) (ρ 19) (ρ 18) w fun x20 w => CondK x20 (VK Tryd.prog (Instr.fieldAt 110 (ρ 1) 0) w fun x23 w => VK Tryd.prog (Instr.loadAt 76 x23) w fun x24 w => VK Tryd.prog (Instr.fieldAt 110 (ρ 1) 2) w fun x26 w => VK Tryd.prog (Instr.loadAt 3 x26) w fun x27 w => CK Tryd.prog (Value.func (Fn.func 58) #[] #[]) [x24, (ρ 19), x27] w fun x28 w => VK Tryd.prog (Instr.extract x28 0) w fun x29 w => VK Tryd.prog (Instr.extract x28 1) w fun x30 w => VK Tryd.prog (Instr.alloc 34 true (.tuple #[])) w fun x5 w => UK Tryd.prog (Instr.storeAt 34 x5 x29) w fun _ w => VK Tryd.prog (Instr.fieldAt 34 x5 4) w fun x32 w => VK Tryd.prog (Instr.loadAt 3 x32) w fun x33 w => VK Tryd.prog (Instr.fieldAt 34 x5 5) w fun x34 w => VK Tryd.prog (Instr.loadAt 3 x34) w fun x35 w => VK Tryd.prog (Instr.build 119 [(0, x33), (1, x35)].toArray) w fun x36 w => VK Tryd.prog (Instr.buildSlice 117 1 [(0, x36)].toArray) w fun x37 w => IK Tryd.prog .append #[117, 117] 117 [false, false] [(ρ 3), x37] w fun x38 w => BK Tryd.prog .add 3 (.tmp 19) (.const (Value.int .i64 1)) (ρ 19) (Value.int .i64 1) w fun x39 w => K .normal (up (up (up (up (up (up (up (up (up (up (up (up (up (up (up (up (up (up (up (up (up (up (up (up (up ρ 20 x20) 21 (ρ 19)) 4 (ρ 19)) 23 x23) 24 x24) 25 (ρ 19)) 26 x26) 27 x27) 28 x28) 22 x28) 29 x29) 30 x30) 5 x5) 6 x30) 31 (ρ 3)) 32 x32) 33 x33) 34 x34) 35 x35) 36 x36) 37 x37) 38 x38) 3 x38) 39 x39) 19 x39) w) (K (.exit 0) (up ρ 20 x20) w)
theorem coll_asked_split_L0_eq (z : At) (K : Exit → Sl → World → Prop) (ρ : Sl) (w : World) : sx z Tryd.prog 70 coll_asked_split_L0 K ρ w = coll_asked_split_L0_F z K ρ w := by kernel_rfl
theorem coll_asked_split_L0_ok : dstOk 70 coll_asked_split_L0 = true := by kernel_rfl
noncomputable def coll_asked_split_R1_F (z : At) (K : Exit → Sl → World → Prop) (ρ : Sl) (w : World) : Prop :=
  W z Tryd.prog 70 coll_asked_split_R2 (seqK (sx z Tryd.prog 70 coll_asked_split_R3 K) K) ρ w
theorem coll_asked_split_R1_eq (z : At) (K : Exit → Sl → World → Prop) (ρ : Sl) (w : World) : sx z Tryd.prog 70 coll_asked_split_R1 K ρ w = coll_asked_split_R1_F z K ρ w := by kernel_rfl
noncomputable def coll_asked_split_R2_ops : Array Oper := opsOf coll_asked_split_R2
def coll_asked_split_R2_H0 (S : World → Prop) (K : Sl → World → Prop) (ρ : Sl) (w : World) : Prop :=
  HK Tryd.prog S (do pure (Next.value (← Instr.fieldAt 110 (ρ 1) 0))) fun x41_2 => HK Tryd.prog S (do pure (Next.value (← Instr.loadAt 76 x41_2))) fun x42_2 => HK Tryd.prog S (nilCk x42_2) fun x43_2 => HK Tryd.prog S (do pure (Next.value (← Instr.fieldAt 82 x43_2 0))) fun x44_2 => HK Tryd.prog S (do pure (Next.value (← Instr.loadAt 32 x44_2))) fun x45_2 => HK Tryd.prog S (do pure (Next.value (← Instr.fieldAt 110 (ρ 1) 2))) fun x46_2 => HK Tryd.prog S (do pure (Next.value (← Instr.loadAt 3 x46_2))) fun x47_2 => CK Tryd.prog (Value.func (Fn.func 88) #[] #[]) [x45_2, x47_2, (ρ 3)] w fun x49_2 w => S w ∧ (HK Tryd.prog S (do pure (Next.value (← Instr.extract x49_2 0))) fun x50_2 => HK Tryd.prog S (do pure (Next.value (← Instr.extract x49_2 1))) fun x51_2 => K (up (up (up (up (up (up (up (up (up (up (up (up ρ 41 x41_2) 42 x42_2) 43 x43_2) 44 x44_2) 45 x45_2) 46 x46_2) 47 x47_2) 48 (ρ 3)) 49 x49_2) 40 x49_2) 50 x50_2) 51 x51_2) w)
theorem coll_asked_split_R2_q0 (S : World → Prop) (K : Sl → World → Prop) : sxh Tryd.prog S coll_asked_split_R2_ops K [(0, true), (1, true), (2, true), (3, true), (4, true), (5, true), (6, true), (7, true), (8, false), (9, true), (10, true), (11, true)] = coll_asked_split_R2_H0 S K := by kernel_rfl
def coll_asked_split_R2_H1 (S : World → Prop) (K : Sl → World → Prop) (ρ : Sl) (w : World) : Prop :=
  K (up (up ρ 7 (ρ 50)) 8 (ρ 51)) w
theorem coll_asked_split_R2_q1 (S : World → Prop) (K : Sl → World → Prop) : sxh Tryd.prog S coll_asked_split_R2_ops K [(12, true), (13, true)] = coll_asked_split_R2_H1 S K := by kernel_rfl
def coll_asked_split_R2_H (S : World → Prop) (K : Exit → Sl → World → Prop) (ρ : Sl) (w : World) : Prop :=
  coll_asked_split_R2_H0 S (coll_asked_split_R2_H1 S (K .normal)) ρ w
theorem coll_asked_split_R2_steps : planOk Tryd.prog 70 coll_asked_split_R2_ops [(0, true), (1, true), (2, true), (3, true), (4, true), (5, true), (6, true), (7, true), (8, false), (9, true), (10, true), (11, true), (12, true), (13, true)] (Array.replicate coll_asked_split_R2_ops.size false) = true :=
  by kernel_rfl
theorem coll_asked_split_R2_held {D : List Deferred} (S : World → Prop) {K : Exit → Sl → World → Prop} {ρ : Sl} {w : World} (hS : S { w with drawn := w.drawn + 1 }) (h : coll_asked_split_R2_H S K ρ { w with drawn := w.drawn + 1 }) : W ⟨none, D⟩ Tryd.prog 70 coll_asked_split_R2 K ρ w := by
  have e : coll_asked_split_R2 = .region (idOf coll_asked_split_R2) coll_asked_split_R2_ops true := by kernel_rfl
  have q : sxh Tryd.prog S coll_asked_split_R2_ops (K .normal) [(0, true), (1, true), (2, true), (3, true), (4, true), (5, true), (6, true), (7, true), (8, false), (9, true), (10, true), (11, true), (12, true), (13, true)] ρ { w with drawn := w.drawn + 1 } = coll_asked_split_R2_H S K ρ { w with drawn := w.drawn + 1 } := by
    show sxh Tryd.prog S coll_asked_split_R2_ops (K .normal) ([(0, true), (1, true), (2, true), (3, true), (4, true), (5, true), (6, true), (7, true), (8, false), (9, true), (10, true), (11, true)] ++ [(12, true), (13, true)]) ρ { w with drawn := w.drawn + 1 } = _
    rw [sxh_append, coll_asked_split_R2_q1, coll_asked_split_R2_q0]; rfl
  rw [e]
  exact W_held S [(0, true), (1, true), (2, true), (3, true), (4, true), (5, true), (6, true), (7, true), (8, false), (9, true), (10, true), (11, true), (12, true), (13, true)] (by kernel_rfl) (by kernel_rfl) coll_asked_split_R2_steps (by kernel_rfl) hS (Eq.mpr q h)
noncomputable def coll_asked_split_R3_F (z : At) (K : Exit → Sl → World → Prop) (ρ : Sl) (w : World) : Prop :=
  IK Tryd.prog .len #[122] 3 [false] [(ρ 7)] w fun x53 w => W z Tryd.prog 70 (Code.loop coll_asked_split_L4) (blkK 2 (seqK (sx z Tryd.prog 70 coll_asked_split_R5 K) K)) (up (up (up ρ 52 (ρ 7)) 53 x53) 54 (Value.int .i64 0)) w
theorem coll_asked_split_R3_eq (z : At) (K : Exit → Sl → World → Prop) (ρ : Sl) (w : World) : sx z Tryd.prog 70 coll_asked_split_R3 K ρ w = coll_asked_split_R3_F z K ρ w := by kernel_rfl
noncomputable def coll_asked_split_L4_F (z : At) (K : Exit → Sl → World → Prop) (ρ : Sl) (w : World) : Prop :=
  BK Tryd.prog .lss 3 (.tmp 54) (.tmp 53) (ρ 54) (ρ 53) w fun x55 w => CondK x55 (VK Tryd.prog (Instr.indexAt 122 (ρ 52) (ρ 54)) w fun x56 w => VK Tryd.prog (Instr.loadAt 32 x56) w fun x57 w => VK Tryd.prog (Instr.alloc 32 true (.tuple #[])) w fun x10 w => UK Tryd.prog (Instr.storeAt 32 x10 x57) w fun _ w => VK Tryd.prog (Instr.loadAt 32 x10) w fun x59 w => VK Tryd.prog (Instr.fieldAt 110 (ρ 1) 4) w fun x60 w => VK Tryd.prog (Instr.loadAt 3 x60) w fun x61 w => CK Tryd.prog (Value.func (Fn.func 35) #[] #[]) [x59, x61] w fun x62 w => VK Tryd.prog (Instr.extract x62 0) w fun x63 w => VK Tryd.prog (Instr.extract x62 1) w fun x64 w => CondK x64 (VK Tryd.prog (Instr.loadAt 32 x10) w fun x66 w => VK Tryd.prog (Instr.build 57 [(2, x66), (3, (Value.bool true))].toArray) w fun x67 w => UK Tryd.prog (Instr.storeAt 57 (ρ 2) x67) w fun _ w => K .ret (up (up (up (up (up (up (up (up (up (up (up (up (up (up (up (up ρ 55 x55) 56 x56) 57 x57) 10 x10) 59 x59) 60 x60) 61 x61) 62 x62) 58 x62) 63 x63) 64 x64) 11 x63) 12 x64) 65 x64) 66 x66) 67 x67) w) (BK Tryd.prog .add 3 (.tmp 54) (.const (Value.int .i64 1)) (ρ 54) (Value.int .i64 1) w fun x68 w => K .normal (up (up (up (up (up (up (up (up (up (up (up (up (up (up (up (up ρ 55 x55) 56 x56) 57 x57) 10 x10) 59 x59) 60 x60) 61 x61) 62 x62) 58 x62) 63 x63) 64 x64) 11 x63) 12 x64) 65 x64) 68 x68) 54 x68) w)) (K (.exit 2) (up ρ 55 x55) w)
theorem coll_asked_split_L4_eq (z : At) (K : Exit → Sl → World → Prop) (ρ : Sl) (w : World) : sx z Tryd.prog 70 coll_asked_split_L4 K ρ w = coll_asked_split_L4_F z K ρ w := by kernel_rfl
theorem coll_asked_split_L4_ok : dstOk 70 coll_asked_split_L4 = true := by kernel_rfl
noncomputable def coll_asked_split_R5_F (z : At) (K : Exit → Sl → World → Prop) (ρ : Sl) (w : World) : Prop :=
  VK Tryd.prog (Instr.build 57 [].toArray) w fun x69 w => UK Tryd.prog (Instr.storeAt 57 (ρ 2) x69) w fun _ w => K .ret (up ρ 69 x69) w
theorem coll_asked_split_R5_eq (z : At) (K : Exit → Sl → World → Prop) (ρ : Sl) (w : World) : sx z Tryd.prog 70 coll_asked_split_R5 K ρ w = coll_asked_split_R5_F z K ρ w := by kernel_rfl
noncomputable def coll_asked_split_F (a0 : Value) (w : World) (R : Value → World → Prop) : Prop :=
  VK Tryd.prog (Instr.box 110 a0) w fun x1 w => VK Tryd.prog (Instr.alloc 57 true (.tuple #[])) w fun x2 w => VK Tryd.prog (Instr.fieldAt 110 x1 0) w fun x13 w => VK Tryd.prog (Instr.loadAt 76 x13) w fun x14 w => NK Tryd.prog x14 w fun x15 w => VK Tryd.prog (Instr.fieldAt 82 x15 1) w fun x16 w => VK Tryd.prog (Instr.loadAt 80 x16) w fun x17 w => IK Tryd.prog .len #[80] 3 [false] [x17] w fun x18 w => W fn_ Tryd.prog 70 (Code.loop coll_asked_split_L0) (blkK 0 (seqK (sx fn_ Tryd.prog 70 coll_asked_split_R1 (retK Tryd.prog [ResultVar.cell 2 57] R)) (retK Tryd.prog [ResultVar.cell 2 57] R))) (up (up (up (up (up (up (up (up (up (up (rho0 [a0]) 1 x1) 2 x2) 3 (Value.slice none 0 0)) 13 x13) 14 x14) 15 x15) 16 x16) 17 x17) 18 x18) 19 (Value.int .i64 0)) w
theorem coll_asked_split_eq (a0 : Value) (w : World) (R : Value → World → Prop) : sx fn_ Tryd.prog 70 coll_asked_split_b (retK Tryd.prog Tryd.f82.results.toList R) (rho0 [a0]) w = coll_asked_split_F a0 w R := by kernel_rfl
theorem coll_asked_split_calls {a0 : Value} {w : World} {R : Value → World → Prop} (h : coll_asked_split_F a0 w R) : Calls Tryd.prog 82 #[a0] w fun e w' => ∃ v, e = .returned v ∧ R v w' :=
  Go.X.calls_of_sx (n := 70) (c := coll_asked_split_b) Tryd.func82 (by kernel_rfl) (by kernel_rfl) (Nat.le_of_ble_eq_true rfl) (by kernel_rfl) (Eq.mpr (coll_asked_split_eq a0 w R) h)
noncomputable def group_child_b : Code := (Tryd.f87.body).getD .skip
noncomputable def group_child_R0 : Code := cAt [1, 0] group_child_b
noncomputable def group_child_R1 : Code := cAt [1, 1] group_child_b
noncomputable def group_child_R0_ops : Array Oper := opsOf group_child_R0
def group_child_R0_Q (C : World → Prop) (K : Exit → Sl → World → Prop) (ρ : Sl) : Prop :=
  QK Tryd.prog C (do pure (Next.value (← Instr.fieldAt 32 (ρ 2) 0))) fun x5 => QK Tryd.prog C (do pure (Next.value (← Instr.loadAt 9 x5))) fun x6 => QK Tryd.prog C (do pure (Next.value (← (do eqGuard BinOp.add 9 (Operand.tmp 6) (Operand.const (Value.string { data := #[46] })) x6 (Value.string { data := #[46] }); binOp BinOp.add 9 x6 (Value.string { data := #[46] }))))) fun x7 => QK Tryd.prog C (do let d ← Deferred.ofValue (Value.func (Fn.func 53) #[] #[]) [(ρ 1)].toArray; invoke d.target d.args) fun x9 => QK Tryd.prog C (do pure (Next.value (← (do eqGuard BinOp.add 9 (Operand.tmp 7) (Operand.tmp 9) x7 x9; binOp BinOp.add 9 x7 x9)))) fun x10 => ∀ w', C w' → K Exit.normal (up (up (up (up (up (up (up ρ 5 x5) 6 x6) 7 x7) 8 (ρ 1)) 9 x9) 10 x10) 4 x10) w'
theorem group_child_R0_quiet {D : List Deferred} (C : World → Prop) {K : Exit → Sl → World → Prop} {ρ : Sl} {w : World} (hC : C { w with drawn := w.drawn + 1 }) (h : group_child_R0_Q C K ρ) : W ⟨none, D⟩ Tryd.prog 11 group_child_R0 K ρ w := by
  have e : group_child_R0 = .region (idOf group_child_R0) group_child_R0_ops true := by kernel_rfl
  have q : sxq Tryd.prog C group_child_R0_ops (fun ρ' => ∀ w', C w' → K .normal ρ' w') group_child_R0_ops.toList ρ = group_child_R0_Q C K ρ := by kernel_rfl
  rw [e]
  exact W_quiet C (by kernel_rfl) (by kernel_rfl) (by kernel_rfl) hC (Eq.mpr q h)
noncomputable def group_child_R1_F (z : At) (K : Exit → Sl → World → Prop) (ρ : Sl) (w : World) : Prop :=
  K .ret ρ w
theorem group_child_R1_eq (z : At) (K : Exit → Sl → World → Prop) (ρ : Sl) (w : World) : sx z Tryd.prog 11 group_child_R1 K ρ w = group_child_R1_F z K ρ w := by kernel_rfl
noncomputable def group_child_F (a0 a1 : Value) (w : World) (R : Value → World → Prop) : Prop :=
  VK Tryd.prog (Instr.box 32 a0) w fun x2 w => W fn_ Tryd.prog 11 group_child_R0 (seqK (sx fn_ Tryd.prog 11 group_child_R1 (retK Tryd.prog [ResultVar.tmp 4] R)) (retK Tryd.prog [ResultVar.tmp 4] R)) (up (up (rho0 [a0, a1]) 2 x2) 4 (Value.string { data := #[] })) w
theorem group_child_eq (a0 a1 : Value) (w : World) (R : Value → World → Prop) : sx fn_ Tryd.prog 11 group_child_b (retK Tryd.prog Tryd.f87.results.toList R) (rho0 [a0, a1]) w = group_child_F a0 a1 w R := by kernel_rfl
theorem group_child_calls {a0 a1 : Value} {w : World} {R : Value → World → Prop} (h : group_child_F a0 a1 w R) : Calls Tryd.prog 87 #[a0, a1] w fun e w' => ∃ v, e = .returned v ∧ R v w' :=
  Go.X.calls_of_sx (n := 11) (c := group_child_b) Tryd.func87 (by kernel_rfl) (by kernel_rfl) (Nat.le_of_ble_eq_true rfl) (by kernel_rfl) (Eq.mpr (group_child_eq a0 a1 w R) h)
noncomputable def group_Split_b : Code := (Tryd.f88.body).getD .skip
noncomputable def group_Split_L0 : Code := cAt [1, 1, 1, 0, 1, 0, 0] group_Split_b
noncomputable def group_Split_R1 : Code := cAt [1, 1, 1, 1] group_Split_b
noncomputable def group_Split_R2 : Code := cAt [1, 1, 1, 0, 1, 0, 0, 1, 1, 1] group_Split_b
noncomputable def group_Split_R3 : Code := cAt [1, 1, 1, 0, 1, 0, 0, 1, 1, 0, 0, 1, 1, 0] group_Split_b
noncomputable def group_Split_L4 : Code := cAt [1, 1, 1, 1, 1, 1, 0, 1, 0, 0] group_Split_b
noncomputable def group_Split_R5 : Code := cAt [1, 1, 1, 1, 1, 1, 1] group_Split_b
noncomputable def group_Split_R6 : Code := cAt [1, 1, 1, 1, 1, 1, 0, 1, 0, 0, 1, 1, 0, 0, 1, 0, 0] group_Split_b
noncomputable def group_Split_R7 : Code := cAt [1, 1, 1, 1, 1, 1, 0, 1, 0, 0, 1, 1, 0, 0, 1, 0, 1] group_Split_b
noncomputable def group_Split_R8 : Code := cAt [1, 1, 1, 1, 1, 1, 0, 1, 0, 0, 1, 1, 0, 0, 1, 1] group_Split_b
noncomputable def group_Split_R9 : Code := cAt [1, 1, 1, 1, 1, 1, 0, 1, 0, 0, 1, 1, 1] group_Split_b
noncomputable def group_Split_R10 : Code := cAt [1, 1, 1, 1, 1, 1, 0, 1, 0, 0, 1, 1, 0, 0, 1, 0, 1, 0] group_Split_b
noncomputable def group_Split_R11 : Code := cAt [1, 1, 1, 1, 1, 1, 0, 1, 0, 0, 1, 1, 0, 0, 1, 1, 1] group_Split_b
noncomputable def group_Split_L0_F (z : At) (K : Exit → Sl → World → Prop) (ρ : Sl) (w : World) : Prop :=
  BK Tryd.prog .lss 3 (.tmp 32) (.tmp 31) (ρ 32) (ρ 31) w fun x33 w => CondK x33 (VK Tryd.prog (Instr.indexAt 117 (ρ 30) (ρ 32)) w fun x35 w => VK Tryd.prog (Instr.loadAt 119 x35) w fun x36 w => VK Tryd.prog (Instr.alloc 119 true (.tuple #[])) w fun x10 w => UK Tryd.prog (Instr.storeAt 119 x10 x36) w fun _ w => VK Tryd.prog (Instr.fieldAt 119 x10 0) w fun x37 w => VK Tryd.prog (Instr.loadAt 3 x37) w fun x38 w => BK Tryd.prog .geq 3 (.tmp 38) (.const (Value.int .i64 0)) x38 (Value.int .i64 0) w fun x39 w => CondK x39 (W z Tryd.prog 106 group_Split_R3 (blkK 1 (seqK (sx z Tryd.prog 106 group_Split_R2 K) K)) (up (up (up (up (up (up (up (up (up ρ 33 x33) 34 (ρ 32)) 35 x35) 36 x36) 10 x10) 9 (ρ 32)) 37 x37) 38 x38) 39 x39) w) (sx z Tryd.prog 106 group_Split_R2 K (up (up (up (up (up (up (up (up (up ρ 33 x33) 34 (ρ 32)) 35 x35) 36 x36) 10 x10) 9 (ρ 32)) 37 x37) 38 x38) 39 x39) w)) (K (.exit 0) (up ρ 33 x33) w)
theorem group_Split_L0_eq (z : At) (K : Exit → Sl → World → Prop) (ρ : Sl) (w : World) : sx z Tryd.prog 106 group_Split_L0 K ρ w = group_Split_L0_F z K ρ w := by kernel_rfl
theorem group_Split_L0_ok : dstOk 106 group_Split_L0 = true := by kernel_rfl
noncomputable def group_Split_R1_F (z : At) (K : Exit → Sl → World → Prop) (ρ : Sl) (w : World) : Prop :=
  CK Tryd.prog (Value.func (Fn.func 104) #[] #[]) [(ρ 8), (Value.func (Fn.func 105) #[] #[])] w fun x52 w => IK Tryd.prog .len #[159] 3 [false] [(ρ 8)] w fun x54 w => W z Tryd.prog 106 (Code.loop group_Split_L4) (blkK 2 (seqK (sx z Tryd.prog 106 group_Split_R5 K) K)) (up (up (up (up (up (up ρ 51 (ρ 8)) 52 x52) 11 (Value.slice none 0 0)) 53 (ρ 8)) 54 x54) 55 (Value.int .i64 0)) w
theorem group_Split_R1_eq (z : At) (K : Exit → Sl → World → Prop) (ρ : Sl) (w : World) : sx z Tryd.prog 106 group_Split_R1 K ρ w = group_Split_R1_F z K ρ w := by kernel_rfl
noncomputable def group_Split_R2_F (z : At) (K : Exit → Sl → World → Prop) (ρ : Sl) (w : World) : Prop :=
  BK Tryd.prog .add 3 (.tmp 32) (.const (Value.int .i64 1)) (ρ 32) (Value.int .i64 1) w fun x50 w => K .normal (up (up ρ 50 x50) 32 x50) w
theorem group_Split_R2_eq (z : At) (K : Exit → Sl → World → Prop) (ρ : Sl) (w : World) : sx z Tryd.prog 106 group_Split_R2 K ρ w = group_Split_R2_F z K ρ w := by kernel_rfl
noncomputable def group_Split_R3_ops : Array Oper := opsOf group_Split_R3
def group_Split_R3_H (S : World → Prop) (K : Exit → Sl → World → Prop) (ρ : Sl) (w : World) : Prop :=
  HK Tryd.prog S (do pure (Next.value (← Instr.loadAt 119 (ρ 10)))) fun x41 => HK Tryd.prog S (do pure (Next.value (← Instr.fieldAt 32 (ρ 3) 1))) fun x42 => HK Tryd.prog S (do pure (Next.value (← Instr.loadAt 30 x42))) fun x43 => HK Tryd.prog S (do pure (Next.value (← Instr.indexAt 30 x43 (ρ 9)))) fun x45 => HK Tryd.prog S (do pure (Next.value (← Instr.loadAt 3 x45))) fun x46 => HK Tryd.prog S (do pure (Next.value (← Instr.build 161 [(0, x41), (1, x46)].toArray))) fun x47 => VK Tryd.prog (Instr.buildSlice 159 1 [(0, x47)].toArray) w fun x48 w => S w ∧ (IK Tryd.prog Builtin.append #[159, 159] 159 [false, false] [(ρ 8), x48] w fun x49 w => S w ∧ (K Exit.normal (up (up (up (up (up (up (up (up (up (up (up ρ 40 (ρ 8)) 41 x41) 42 x42) 43 x43) 44 (ρ 9)) 45 x45) 46 x46) 47 x47) 48 x48) 49 x49) 8 x49) w))
theorem group_Split_R3_held {D : List Deferred} (S : World → Prop) {K : Exit → Sl → World → Prop} {ρ : Sl} {w : World} (hS : S { w with drawn := w.drawn + 1 }) (h : group_Split_R3_H S K ρ { w with drawn := w.drawn + 1 }) : W ⟨none, D⟩ Tryd.prog 106 group_Split_R3 K ρ w := by
  have e : group_Split_R3 = .region (idOf group_Split_R3) group_Split_R3_ops true := by kernel_rfl
  have q : sxh Tryd.prog S group_Split_R3_ops (K .normal) [(0, true), (1, true), (2, true), (3, true), (4, true), (5, true), (6, true), (7, true), (8, false), (9, false), (10, true)] ρ { w with drawn := w.drawn + 1 } = group_Split_R3_H S K ρ { w with drawn := w.drawn + 1 } := by kernel_rfl
  rw [e]
  exact W_held S [(0, true), (1, true), (2, true), (3, true), (4, true), (5, true), (6, true), (7, true), (8, false), (9, false), (10, true)] (by kernel_rfl) (by kernel_rfl) (by kernel_rfl) (by kernel_rfl) hS (Eq.mpr q h)
noncomputable def group_Split_L4_F (z : At) (K : Exit → Sl → World → Prop) (ρ : Sl) (w : World) : Prop :=
  BK Tryd.prog .lss 3 (.tmp 55) (.tmp 54) (ρ 55) (ρ 54) w fun x56 w => CondK x56 (VK Tryd.prog (Instr.indexAt 159 (ρ 53) (ρ 55)) w fun x58 w => VK Tryd.prog (Instr.loadAt 161 x58) w fun x59 w => VK Tryd.prog (Instr.alloc 161 true (.tuple #[])) w fun x13 w => UK Tryd.prog (Instr.storeAt 161 x13 x59) w fun _ w => W z Tryd.prog 106 group_Split_R6 (seqK (sx z Tryd.prog 106 group_Split_R7 (seqK (sx z Tryd.prog 106 group_Split_R8 (blkK 3 (seqK (sx z Tryd.prog 106 group_Split_R9 K) K))) (blkK 3 (seqK (sx z Tryd.prog 106 group_Split_R9 K) K)))) (seqK (sx z Tryd.prog 106 group_Split_R8 (blkK 3 (seqK (sx z Tryd.prog 106 group_Split_R9 K) K))) (blkK 3 (seqK (sx z Tryd.prog 106 group_Split_R9 K) K)))) (up (up (up (up (up (up ρ 56 x56) 57 (ρ 55)) 58 x58) 59 x59) 13 x13) 12 (ρ 55)) w) (K (.exit 2) (up ρ 56 x56) w)
theorem group_Split_L4_eq (z : At) (K : Exit → Sl → World → Prop) (ρ : Sl) (w : World) : sx z Tryd.prog 106 group_Split_L4 K ρ w = group_Split_L4_F z K ρ w := by kernel_rfl
theorem group_Split_L4_ok : dstOk 106 group_Split_L4 = true := by kernel_rfl
noncomputable def group_Split_R5_F (z : At) (K : Exit → Sl → World → Prop) (ρ : Sl) (w : World) : Prop :=
  K .ret (up (up (up ρ 105 (ρ 11)) 6 (ρ 11)) 7 (Value.int .i64 0)) w
theorem group_Split_R5_eq (z : At) (K : Exit → Sl → World → Prop) (ρ : Sl) (w : World) : sx z Tryd.prog 106 group_Split_R5 K ρ w = group_Split_R5_F z K ρ w := by kernel_rfl
noncomputable def group_Split_R6_ops : Array Oper := opsOf group_Split_R6
def group_Split_R6_Q (C : World → Prop) (K : Exit → Sl → World → Prop) (ρ : Sl) : Prop :=
  QK Tryd.prog C (do pure (Next.value (← (do eqGuard BinOp.eql 3 (Operand.tmp 60) (Operand.const (Value.int IntKind.i64 0)) (ρ 12) (Value.int IntKind.i64 0); binOp BinOp.eql 3 (ρ 12) (Value.int IntKind.i64 0))))) fun x61 => QG Tryd.prog C x61 false  (pure (Next.value (ρ 8))) fun x63 => QG Tryd.prog C x61 false  (pure (Next.value (ρ 12))) fun x64 => QG Tryd.prog C x61 false  (do pure (Next.value (← (do eqGuard BinOp.sub 3 (Operand.tmp 64) (Operand.const (Value.int IntKind.i64 1)) x64 (Value.int IntKind.i64 1); binOp BinOp.sub 3 x64 (Value.int IntKind.i64 1))))) fun x65 => QG Tryd.prog C x61 false  (do pure (Next.value (← Instr.indexAt 159 x63 x65))) fun x66 => QG Tryd.prog C x61 false  (do pure (Next.value (← Instr.fieldAt 161 x66 0))) fun x67 => QG Tryd.prog C x61 false  (do pure (Next.value (← Instr.fieldAt 119 x67 0))) fun x68 => QG Tryd.prog C x61 false  (do pure (Next.value (← Instr.loadAt 3 x68))) fun x69 => QG Tryd.prog C x61 false  (do pure (Next.value (← Instr.fieldAt 161 (ρ 13) 0))) fun x70 => QG Tryd.prog C x61 false  (do pure (Next.value (← Instr.fieldAt 119 x70 0))) fun x71 => QG Tryd.prog C x61 false  (do pure (Next.value (← Instr.loadAt 3 x71))) fun x72 => QG Tryd.prog C x61 false  (do pure (Next.value (← (do eqGuard BinOp.neq 3 (Operand.tmp 69) (Operand.tmp 72) x69 x72; binOp BinOp.neq 3 x69 x72)))) fun x73 => QK Tryd.prog C (do pure (Next.value (if ← asBool x61 then (Value.bool true) else x73))) fun x74 => ∀ w', C w' → K Exit.normal (up (up (up (up (up (up (up (up (up (up (up (up (up (up (up ρ 60 (ρ 12)) 61 x61) 62 x61) 63 x63) 64 x64) 65 x65) 66 x66) 67 x67) 68 x68) 69 x69) 70 x70) 71 x71) 72 x72) 73 x73) 74 x74) w'
theorem group_Split_R6_quiet {D : List Deferred} (C : World → Prop) {K : Exit → Sl → World → Prop} {ρ : Sl} {w : World} (hC : C { w with drawn := w.drawn + 1 }) (h : group_Split_R6_Q C K ρ) : W ⟨none, D⟩ Tryd.prog 106 group_Split_R6 K ρ w := by
  have e : group_Split_R6 = .region (idOf group_Split_R6) group_Split_R6_ops true := by kernel_rfl
  have q : sxq Tryd.prog C group_Split_R6_ops (fun ρ' => ∀ w', C w' → K .normal ρ' w') group_Split_R6_ops.toList ρ = group_Split_R6_Q C K ρ := by kernel_rfl
  rw [e]
  exact W_quiet C (by kernel_rfl) (by kernel_rfl) (by kernel_rfl) hC (Eq.mpr q h)
noncomputable def group_Split_R7_F (z : At) (K : Exit → Sl → World → Prop) (ρ : Sl) (w : World) : Prop :=
  CondK (ρ 74) (W z Tryd.prog 106 group_Split_R10 K ρ w) (K .normal ρ w)
theorem group_Split_R7_eq (z : At) (K : Exit → Sl → World → Prop) (ρ : Sl) (w : World) : sx z Tryd.prog 106 group_Split_R7 K ρ w = group_Split_R7_F z K ρ w := by kernel_rfl
noncomputable def group_Split_R8_F (z : At) (K : Exit → Sl → World → Prop) (ρ : Sl) (w : World) : Prop :=
  IK Tryd.prog .len #[122] 3 [false] [(ρ 11)] w fun x90 w => BK Tryd.prog .sub 3 (.tmp 90) (.const (Value.int .i64 1)) x90 (Value.int .i64 1) w fun x91 w => VK Tryd.prog (Instr.indexAt 122 (ρ 11) x91) w fun x92 w => W z Tryd.prog 106 group_Split_R11 K (up (up (up (up (up (up ρ 88 (ρ 11)) 89 (ρ 11)) 90 x90) 91 x91) 92 x92) 14 x92) w
theorem group_Split_R8_eq (z : At) (K : Exit → Sl → World → Prop) (ρ : Sl) (w : World) : sx z Tryd.prog 106 group_Split_R8 K ρ w = group_Split_R8_F z K ρ w := by kernel_rfl
noncomputable def group_Split_R9_F (z : At) (K : Exit → Sl → World → Prop) (ρ : Sl) (w : World) : Prop :=
  BK Tryd.prog .add 3 (.tmp 55) (.const (Value.int .i64 1)) (ρ 55) (Value.int .i64 1) w fun x104 w => K .normal (up (up ρ 104 x104) 55 x104) w
theorem group_Split_R9_eq (z : At) (K : Exit → Sl → World → Prop) (ρ : Sl) (w : World) : sx z Tryd.prog 106 group_Split_R9 K ρ w = group_Split_R9_F z K ρ w := by kernel_rfl
noncomputable def group_Split_R10_ops : Array Oper := opsOf group_Split_R10
def group_Split_R10_H0 (S : World → Prop) (K : Sl → World → Prop) (ρ : Sl) (w : World) : Prop :=
  HK Tryd.prog S (do pure (Next.value (← Instr.loadAt 32 (ρ 3)))) fun x76 => HK Tryd.prog S (do pure (Next.value (← Instr.fieldAt 161 (ρ 13) 0))) fun x80 => HK Tryd.prog S (do pure (Next.value (← Instr.fieldAt 119 x80 0))) fun x81 => HK Tryd.prog S (do pure (Next.value (← Instr.loadAt 3 x81))) fun x82 => CK Tryd.prog (Value.func (Fn.func 87) #[] #[]) [x76, (ρ 1)] w fun x78 w => S w ∧ (HK Tryd.prog S (do pure (Next.value (← (do eqGuard BinOp.add 9 (Operand.tmp 78) (Operand.const (Value.string { data := #[58] })) x78 (Value.string { data := #[58] }); binOp BinOp.add 9 x78 (Value.string { data := #[58] }))))) fun x79 => CK Tryd.prog (Value.func (Fn.func 53) #[] #[]) [x82] w fun x83 w => S w ∧ (HK Tryd.prog S (do pure (Next.value (← (do eqGuard BinOp.add 9 (Operand.tmp 79) (Operand.tmp 83) x79 x83; binOp BinOp.add 9 x79 x83)))) fun x84 => HK Tryd.prog S (do pure (Next.value (← Instr.build 32 [(0, x84)].toArray))) fun x85 => VK Tryd.prog (Instr.buildSlice 122 1 [(0, x85)].toArray) w fun x86 w => S w ∧ (K (up (up (up (up (up (up (up (up (up (up (up (up ρ 75 (ρ 11)) 76 x76) 77 (ρ 1)) 80 x80) 81 x81) 82 x82) 78 x78) 79 x79) 83 x83) 84 x84) 85 x85) 86 x86) w)))
theorem group_Split_R10_q0 (S : World → Prop) (K : Sl → World → Prop) : sxh Tryd.prog S group_Split_R10_ops K [(0, true), (1, true), (2, true), (5, true), (6, true), (7, true), (3, false), (4, true), (8, false), (9, true), (10, true), (11, false)] = group_Split_R10_H0 S K := by kernel_rfl
def group_Split_R10_H1 (S : World → Prop) (K : Sl → World → Prop) (ρ : Sl) (w : World) : Prop :=
  IK Tryd.prog Builtin.append #[122, 122] 122 [false, false] [(ρ 75), (ρ 86)] w fun x87 w => S w ∧ (K (up (up ρ 87 x87) 11 x87) w)
theorem group_Split_R10_q1 (S : World → Prop) (K : Sl → World → Prop) : sxh Tryd.prog S group_Split_R10_ops K [(12, false), (13, true)] = group_Split_R10_H1 S K := by kernel_rfl
def group_Split_R10_H (S : World → Prop) (K : Exit → Sl → World → Prop) (ρ : Sl) (w : World) : Prop :=
  group_Split_R10_H0 S (group_Split_R10_H1 S (K .normal)) ρ w
theorem group_Split_R10_steps : planOk Tryd.prog 106 group_Split_R10_ops [(0, true), (1, true), (2, true), (5, true), (6, true), (7, true), (3, false), (4, true), (8, false), (9, true), (10, true), (11, false), (12, false), (13, true)] (Array.replicate group_Split_R10_ops.size false) = true :=
  by kernel_rfl
theorem group_Split_R10_held {D : List Deferred} (S : World → Prop) {K : Exit → Sl → World → Prop} {ρ : Sl} {w : World} (hS : S { w with drawn := w.drawn + 1 }) (h : group_Split_R10_H S K ρ { w with drawn := w.drawn + 1 }) : W ⟨none, D⟩ Tryd.prog 106 group_Split_R10 K ρ w := by
  have e : group_Split_R10 = .region (idOf group_Split_R10) group_Split_R10_ops true := by kernel_rfl
  have q : sxh Tryd.prog S group_Split_R10_ops (K .normal) [(0, true), (1, true), (2, true), (5, true), (6, true), (7, true), (3, false), (4, true), (8, false), (9, true), (10, true), (11, false), (12, false), (13, true)] ρ { w with drawn := w.drawn + 1 } = group_Split_R10_H S K ρ { w with drawn := w.drawn + 1 } := by
    show sxh Tryd.prog S group_Split_R10_ops (K .normal) ([(0, true), (1, true), (2, true), (5, true), (6, true), (7, true), (3, false), (4, true), (8, false), (9, true), (10, true), (11, false)] ++ [(12, false), (13, true)]) ρ { w with drawn := w.drawn + 1 } = _
    rw [sxh_append, group_Split_R10_q1, group_Split_R10_q0]; rfl
  rw [e]
  exact W_held S [(0, true), (1, true), (2, true), (5, true), (6, true), (7, true), (3, false), (4, true), (8, false), (9, true), (10, true), (11, false), (12, false), (13, true)] (by kernel_rfl) (by kernel_rfl) group_Split_R10_steps (by kernel_rfl) hS (Eq.mpr q h)
noncomputable def group_Split_R11_ops : Array Oper := opsOf group_Split_R11
def group_Split_R11_H (S : World → Prop) (K : Exit → Sl → World → Prop) (ρ : Sl) (w : World) : Prop :=
  HK Tryd.prog S (nilCk (ρ 14)) fun x95 => HK Tryd.prog S (do pure (Next.value (← Instr.fieldAt 32 x95 1))) fun x96 => HK Tryd.prog S (do pure (Next.value (← Instr.fieldAt 161 (ρ 13) 1))) fun x98 => HK Tryd.prog S (do pure (Next.value (← Instr.loadAt 3 x98))) fun x99 => (VK Tryd.prog (Instr.loadAt 30 x96) w fun x97 w => S w ∧ (VK Tryd.prog (Instr.buildSlice 30 1 [(0, x99)].toArray) w fun x100 w => S w ∧ (IK Tryd.prog Builtin.append #[30, 30] 30 [false, false] [x97, x100] w fun x101 w => S w ∧ (HK Tryd.prog S (nilCk (ρ 14)) fun x102 => HK Tryd.prog S (do pure (Next.value (← Instr.fieldAt 32 x102 1))) fun x103 => UK Tryd.prog (Instr.storeAt 30 x103 x101) w fun _ w => S w ∧ (K Exit.normal (up (up (up (up (up (up (up (up (up (up (up ρ 93 (ρ 14)) 94 (ρ 14)) 95 x95) 96 x96) 98 x98) 99 x99) 97 x97) 100 x100) 101 x101) 102 x102) 103 x103) w))))) ∧ (VK Tryd.prog (Instr.buildSlice 30 1 [(0, x99)].toArray) w fun x100_1 w => S w ∧ (VK Tryd.prog (Instr.loadAt 30 x96) w fun x97_1 w => S w ∧ (IK Tryd.prog Builtin.append #[30, 30] 30 [false, false] [x97_1, x100_1] w fun x101_1 w => S w ∧ (HK Tryd.prog S (nilCk (ρ 14)) fun x102_1 => HK Tryd.prog S (do pure (Next.value (← Instr.fieldAt 32 x102_1 1))) fun x103_1 => UK Tryd.prog (Instr.storeAt 30 x103_1 x101_1) w fun _ w => S w ∧ (K Exit.normal (up (up (up (up (up (up (up (up (up (up (up ρ 93 (ρ 14)) 94 (ρ 14)) 95 x95) 96 x96) 98 x98) 99 x99) 100 x100_1) 97 x97_1) 101 x101_1) 102 x102_1) 103 x103_1) w)))))
theorem group_Split_R11_held {D : List Deferred} (S : World → Prop) {K : Exit → Sl → World → Prop} {ρ : Sl} {w : World} (hS : S { w with drawn := w.drawn + 1 }) (h : group_Split_R11_H S K ρ { w with drawn := w.drawn + 1 }) : W ⟨none, D⟩ Tryd.prog 106 group_Split_R11 K ρ w := by
  have e : group_Split_R11 = .region (idOf group_Split_R11) group_Split_R11_ops true := by kernel_rfl
  have q : sxd Tryd.prog S group_Split_R11_ops (K .normal) (Pd.take 0 (Pd.take 1 (Pd.take 2 (Pd.take 3 (Pd.take 5 (Pd.take 6 (Pd.two false false 4 7 (Pd.only false 7 (Pd.only false 8 (Pd.take 9 (Pd.take 10 (Pd.only false 11 Pd.done))))) (Pd.only false 4 (Pd.only false 8 (Pd.take 9 (Pd.take 10 (Pd.only false 11 Pd.done)))))))))))) ρ { w with drawn := w.drawn + 1 } = group_Split_R11_H S K ρ { w with drawn := w.drawn + 1 } := by kernel_rfl
  rw [e]
  exact W_pland S (Pd.take 0 (Pd.take 1 (Pd.take 2 (Pd.take 3 (Pd.take 5 (Pd.take 6 (Pd.two false false 4 7 (Pd.only false 7 (Pd.only false 8 (Pd.take 9 (Pd.take 10 (Pd.only false 11 Pd.done))))) (Pd.only false 4 (Pd.only false 8 (Pd.take 9 (Pd.take 10 (Pd.only false 11 Pd.done)))))))))))) (by kernel_rfl) (by kernel_rfl) (by kernel_rfl) (by kernel_rfl) hS (Eq.mpr q h)
noncomputable def group_Split_F (a0 a1 a2 : Value) (w : World) (R : Value → World → Prop) : Prop :=
  VK Tryd.prog (Instr.box 32 a0) w fun x3 w => VK Tryd.prog (Instr.loadAt 32 x3) w fun x15 w => CK Tryd.prog (Value.func (Fn.func 36) #[] #[]) [x15] w fun x16 w => VK Tryd.prog (Op.unary UnOp.not x16) w fun x17 w => MG Tryd.prog x17 false a1 w fun x19 w => BG Tryd.prog x17 false .lss 3 (.tmp 19) (.const (Value.int .i64 0)) x19 (Value.int .i64 0) w fun x20 w => PK Tryd.prog x17 (Value.bool true) x20 w fun x21 w => MG Tryd.prog x21 false a2 w fun x23 w => IG Tryd.prog x21 false .len #[117] 3 [false] [x23] w fun x24 w => VG Tryd.prog x21 false (Instr.fieldAt 32 x3 1) w fun x25 w => VG Tryd.prog x21 false (Instr.loadAt 30 x25) w fun x26 w => IG Tryd.prog x21 false .len #[30] 3 [false] [x26] w fun x27 w => BG Tryd.prog x21 false .neq 3 (.tmp 24) (.tmp 27) x24 x27 w fun x28 w => PK Tryd.prog x21 (Value.bool true) x28 w fun x29 w => CondK x29 (R (Value.tuple #[(Value.slice none 0 0), (Value.int .i64 2)]) w) (IK Tryd.prog .len #[117] 3 [false] [a2] w fun x31 w => W fn_ Tryd.prog 106 (Code.loop group_Split_L0) (blkK 0 (seqK (sx fn_ Tryd.prog 106 group_Split_R1 (retK Tryd.prog [ResultVar.tmp 6, ResultVar.tmp 7] R)) (retK Tryd.prog [ResultVar.tmp 6, ResultVar.tmp 7] R))) (up (up (up (up (up (up (up (up (up (up (up (up (up (up (up (up (up (up (up (up (up (up (rho0 [a0, a1, a2]) 3 x3) 6 (Value.slice none 0 0)) 7 (Value.int .i64 0)) 15 x15) 16 x16) 17 x17) 18 x17) 19 x19) 20 x20) 21 x21) 22 x21) 23 x23) 24 x24) 25 x25) 26 x26) 27 x27) 28 x28) 29 x29) 8 (Value.slice none 0 0)) 30 a2) 31 x31) 32 (Value.int .i64 0)) w)
theorem group_Split_eq (a0 a1 a2 : Value) (w : World) (R : Value → World → Prop) : sx fn_ Tryd.prog 106 group_Split_b (retK Tryd.prog Tryd.f88.results.toList R) (rho0 [a0, a1, a2]) w = group_Split_F a0 a1 a2 w R := by kernel_rfl
theorem group_Split_calls {a0 a1 a2 : Value} {w : World} {R : Value → World → Prop} (h : group_Split_F a0 a1 a2 w R) : Calls Tryd.prog 88 #[a0, a1, a2] w fun e w' => ∃ v, e = .returned v ∧ R v w' :=
  Go.X.calls_of_sx (n := 106) (c := group_Split_b) Tryd.func88 (by kernel_rfl) (by kernel_rfl) (Nat.le_of_ble_eq_true rfl) (by kernel_rfl) (Eq.mpr (group_Split_eq a0 a1 a2 w R) h)
noncomputable def slices_SortStableFunc_group_asked_group_asked_b : Code := (Tryd.f104.body).getD .skip
noncomputable def slices_SortStableFunc_group_asked_group_asked_F (a0 a1 : Value) (w : World) (R : Value → World → Prop) : Prop :=
  IK Tryd.prog .len #[159] 3 [false] [a0] w fun x6 w => CK Tryd.prog (Value.func (Fn.func 118) #[] #[]) [a0, x6, a1] w fun x8 w => R (Value.tuple #[]) w
theorem slices_SortStableFunc_group_asked_group_asked_eq (a0 a1 : Value) (w : World) (R : Value → World → Prop) : sx fn_ Tryd.prog 9 slices_SortStableFunc_group_asked_group_asked_b (retK Tryd.prog Tryd.f104.results.toList R) (rho0 [a0, a1]) w = slices_SortStableFunc_group_asked_group_asked_F a0 a1 w R := by kernel_rfl
theorem slices_SortStableFunc_group_asked_group_asked_calls {a0 a1 : Value} {w : World} {R : Value → World → Prop} (h : slices_SortStableFunc_group_asked_group_asked_F a0 a1 w R) : Calls Tryd.prog 104 #[a0, a1] w fun e w' => ∃ v, e = .returned v ∧ R v w' :=
  Go.X.calls_of_sx (n := 9) (c := slices_SortStableFunc_group_asked_group_asked_b) Tryd.func104 (by kernel_rfl) (by kernel_rfl) (Nat.le_of_ble_eq_true rfl) (by kernel_rfl) (Eq.mpr (slices_SortStableFunc_group_asked_group_asked_eq a0 a1 w R) h)
noncomputable def group_Split_1_b : Code := (Tryd.f105.body).getD .skip
noncomputable def group_Split_1_R0 : Code := cAt [1, 0] group_Split_1_b
noncomputable def group_Split_1_R1 : Code := cAt [1, 1] group_Split_1_b
noncomputable def group_Split_1_R0_ops : Array Oper := opsOf group_Split_1_R0
def group_Split_1_R0_T (K : Exit → Sl → World → Prop) (ρ : Sl) (w : World) : Prop :=
  let C : World → Prop := fun w' => w' = w; QK Tryd.prog C (do pure (Next.value (← Instr.fieldAt 161 (ρ 2) 0))) fun x5 => QK Tryd.prog C (do pure (Next.value (← Instr.fieldAt 119 x5 0))) fun x6 => QK Tryd.prog C (do pure (Next.value (← Instr.loadAt 3 x6))) fun x7 => QK Tryd.prog C (do pure (Next.value (← Instr.fieldAt 161 (ρ 3) 0))) fun x8 => QK Tryd.prog C (do pure (Next.value (← Instr.fieldAt 119 x8 0))) fun x9 => QK Tryd.prog C (do pure (Next.value (← Instr.loadAt 3 x9))) fun x10 => QK Tryd.prog C (do let d ← Deferred.ofValue (Value.func (Fn.func 107) #[] #[]) [x7, x10].toArray; invoke d.target d.args) fun x11 => QK Tryd.prog C (do pure (Next.value (← Instr.fieldAt 161 (ρ 2) 0))) fun x12 => QK Tryd.prog C (do pure (Next.value (← Instr.fieldAt 119 x12 1))) fun x13 => QK Tryd.prog C (do pure (Next.value (← Instr.loadAt 3 x13))) fun x14 => QK Tryd.prog C (do pure (Next.value (← Instr.fieldAt 161 (ρ 3) 0))) fun x15 => QK Tryd.prog C (do pure (Next.value (← Instr.fieldAt 119 x15 1))) fun x16 => QK Tryd.prog C (do pure (Next.value (← Instr.loadAt 3 x16))) fun x17 => CK Tryd.prog (Value.func (Fn.func 107) #[] #[]) [x14, x17] w fun x18 w => VK Tryd.prog (Instr.buildSlice 30 2 [(0, x11), (1, x18)].toArray) w fun x19 w => CK Tryd.prog (Value.func (Fn.func 106) #[] #[]) [x19] w fun x20 w => K Exit.normal (up (up (up (up (up (up (up (up (up (up (up (up (up (up (up (up (up ρ 5 x5) 6 x6) 7 x7) 8 x8) 9 x9) 10 x10) 11 x11) 12 x12) 13 x13) 14 x14) 15 x15) 16 x16) 17 x17) 18 x18) 19 x19) 20 x20) 4 x20) w
theorem group_Split_1_R0_tail {D : List Deferred} {K : Exit → Sl → World → Prop} {ρ : Sl} {w : World} (h : group_Split_1_R0_T K ρ { w with drawn := w.drawn + 1 }) : W ⟨none, D⟩ Tryd.prog 21 group_Split_1_R0 K ρ w := by
  have e : group_Split_1_R0 = .region (idOf group_Split_1_R0) group_Split_1_R0_ops true := by kernel_rfl
  have q : sxq Tryd.prog (fun w' => w' = { w with drawn := w.drawn + 1 }) group_Split_1_R0_ops (fun ρ' => sxL Tryd.prog group_Split_1_R0_ops (K .normal) (group_Split_1_R0_ops.toList.drop 13) ρ' { w with drawn := w.drawn + 1 }) (group_Split_1_R0_ops.toList.take 13) ρ = group_Split_1_R0_T K ρ { w with drawn := w.drawn + 1 } := by kernel_rfl
  rw [e]
  exact W_tail 13 (by kernel_rfl) (by kernel_rfl) (by kernel_rfl) (by kernel_rfl) (Eq.mpr q h)
noncomputable def group_Split_1_R1_F (z : At) (K : Exit → Sl → World → Prop) (ρ : Sl) (w : World) : Prop :=
  K .ret ρ w
theorem group_Split_1_R1_eq (z : At) (K : Exit → Sl → World → Prop) (ρ : Sl) (w : World) : sx z Tryd.prog 21 group_Split_1_R1 K ρ w = group_Split_1_R1_F z K ρ w := by kernel_rfl
noncomputable def group_Split_1_F (a0 a1 : Value) (w : World) (R : Value → World → Prop) : Prop :=
  VK Tryd.prog (Instr.box 161 a0) w fun x2 w => VK Tryd.prog (Instr.box 161 a1) w fun x3 w => W fn_ Tryd.prog 21 group_Split_1_R0 (seqK (sx fn_ Tryd.prog 21 group_Split_1_R1 (retK Tryd.prog [ResultVar.tmp 4] R)) (retK Tryd.prog [ResultVar.tmp 4] R)) (up (up (up (rho0 [a0, a1]) 2 x2) 3 x3) 4 (Value.int .i64 0)) w
theorem group_Split_1_eq (a0 a1 : Value) (w : World) (R : Value → World → Prop) : sx fn_ Tryd.prog 21 group_Split_1_b (retK Tryd.prog Tryd.f105.results.toList R) (rho0 [a0, a1]) w = group_Split_1_F a0 a1 w R := by kernel_rfl
theorem group_Split_1_calls {a0 a1 : Value} {w : World} {R : Value → World → Prop} (h : group_Split_1_F a0 a1 w R) : Calls Tryd.prog 105 #[a0, a1] w fun e w' => ∃ v, e = .returned v ∧ R v w' :=
  Go.X.calls_of_sx (n := 21) (c := group_Split_1_b) Tryd.func105 (by kernel_rfl) (by kernel_rfl) (Nat.le_of_ble_eq_true rfl) (by kernel_rfl) (Eq.mpr (group_Split_1_eq a0 a1 w R) h)
noncomputable def cmp_Or_int_b : Code := (Tryd.f106.body).getD .skip
noncomputable def cmp_Or_int_L0 : Code := cAt [1, 1, 0, 1, 0, 0] cmp_Or_int_b
noncomputable def cmp_Or_int_R1 : Code := cAt [1, 1, 1] cmp_Or_int_b
noncomputable def cmp_Or_int_L0_F (z : At) (K : Exit → Sl → World → Prop) (ρ : Sl) (w : World) : Prop :=
  BK Tryd.prog .lss 3 (.tmp 8) (.tmp 7) (ρ 8) (ρ 7) w fun x9 w => CondK x9 (VK Tryd.prog (Instr.indexAt 30 (ρ 6) (ρ 8)) w fun x10 w => VK Tryd.prog (Instr.loadAt 3 x10) w fun x11 w => BK Tryd.prog .neq 3 (.tmp 12) (.tmp 13) x11 (ρ 3) w fun x14 w => CondK x14 (K .ret (up (up (up (up (up (up (up (up (up ρ 9 x9) 10 x10) 11 x11) 5 x11) 12 x11) 13 (ρ 3)) 14 x14) 15 x11) 2 x11) w) (BK Tryd.prog .add 3 (.tmp 8) (.const (Value.int .i64 1)) (ρ 8) (Value.int .i64 1) w fun x16 w => K .normal (up (up (up (up (up (up (up (up (up ρ 9 x9) 10 x10) 11 x11) 5 x11) 12 x11) 13 (ρ 3)) 14 x14) 16 x16) 8 x16) w)) (K (.exit 0) (up ρ 9 x9) w)
theorem cmp_Or_int_L0_eq (z : At) (K : Exit → Sl → World → Prop) (ρ : Sl) (w : World) : sx z Tryd.prog 18 cmp_Or_int_L0 K ρ w = cmp_Or_int_L0_F z K ρ w := by kernel_rfl
theorem cmp_Or_int_L0_ok : dstOk 18 cmp_Or_int_L0 = true := by kernel_rfl
noncomputable def cmp_Or_int_R1_F (z : At) (K : Exit → Sl → World → Prop) (ρ : Sl) (w : World) : Prop :=
  K .ret (up (up ρ 17 (ρ 3)) 2 (ρ 3)) w
theorem cmp_Or_int_R1_eq (z : At) (K : Exit → Sl → World → Prop) (ρ : Sl) (w : World) : sx z Tryd.prog 18 cmp_Or_int_R1 K ρ w = cmp_Or_int_R1_F z K ρ w := by kernel_rfl
noncomputable def cmp_Or_int_F (a0 : Value) (w : World) (R : Value → World → Prop) : Prop :=
  IK Tryd.prog .len #[30] 3 [false] [a0] w fun x7 w => W fn_ Tryd.prog 18 (Code.loop cmp_Or_int_L0) (blkK 0 (seqK (sx fn_ Tryd.prog 18 cmp_Or_int_R1 (retK Tryd.prog [ResultVar.tmp 2] R)) (retK Tryd.prog [ResultVar.tmp 2] R))) (up (up (up (up (up (rho0 [a0]) 2 (Value.int .i64 0)) 3 (Value.int .i64 0)) 6 a0) 7 x7) 8 (Value.int .i64 0)) w
theorem cmp_Or_int_eq (a0 : Value) (w : World) (R : Value → World → Prop) : sx fn_ Tryd.prog 18 cmp_Or_int_b (retK Tryd.prog Tryd.f106.results.toList R) (rho0 [a0]) w = cmp_Or_int_F a0 w R := by kernel_rfl
theorem cmp_Or_int_calls {a0 : Value} {w : World} {R : Value → World → Prop} (h : cmp_Or_int_F a0 w R) : Calls Tryd.prog 106 #[a0] w fun e w' => ∃ v, e = .returned v ∧ R v w' :=
  Go.X.calls_of_sx (n := 18) (c := cmp_Or_int_b) Tryd.func106 (by kernel_rfl) (by kernel_rfl) (Nat.le_of_ble_eq_true rfl) (by kernel_rfl) (Eq.mpr (cmp_Or_int_eq a0 w R) h)
noncomputable def cmp_Compare_int_b : Code := (Tryd.f107.body).getD .skip
noncomputable def cmp_Compare_int_F (a0 a1 : Value) (w : World) (R : Value → World → Prop) : Prop :=
  CK Tryd.prog (Value.func (Fn.func 119) #[] #[]) [a0] w fun x8 w => CK Tryd.prog (Value.func (Fn.func 119) #[] #[]) [a1] w fun x10 w => CondK x8 (CondK x10 (R (Value.int .i64 0) w) (R (Value.int .i64 (-1)) w)) (CondK x10 (R (Value.int .i64 1) w) (BK Tryd.prog .lss 3 (.tmp 14) (.tmp 15) a0 a1 w fun x16 w => CondK x16 (R (Value.int .i64 (-1)) w) (BK Tryd.prog .gtr 3 (.tmp 17) (.tmp 18) a0 a1 w fun x19 w => CondK x19 (R (Value.int .i64 1) w) (R (Value.int .i64 0) w))))
theorem cmp_Compare_int_eq (a0 a1 : Value) (w : World) (R : Value → World → Prop) : sx fn_ Tryd.prog 20 cmp_Compare_int_b (retK Tryd.prog Tryd.f107.results.toList R) (rho0 [a0, a1]) w = cmp_Compare_int_F a0 a1 w R := by kernel_rfl
theorem cmp_Compare_int_calls {a0 a1 : Value} {w : World} {R : Value → World → Prop} (h : cmp_Compare_int_F a0 a1 w R) : Calls Tryd.prog 107 #[a0, a1] w fun e w' => ∃ v, e = .returned v ∧ R v w' :=
  Go.X.calls_of_sx (n := 20) (c := cmp_Compare_int_b) Tryd.func107 (by kernel_rfl) (by kernel_rfl) (Nat.le_of_ble_eq_true rfl) (by kernel_rfl) (Eq.mpr (cmp_Compare_int_eq a0 a1 w R) h)
noncomputable def slices_stableCmpFunc_group_asked_b : Code := (Tryd.f118.body).getD .skip
noncomputable def slices_stableCmpFunc_group_asked_L0 : Code := cAt [1, 1, 0, 0, 0] slices_stableCmpFunc_group_asked_b
noncomputable def slices_stableCmpFunc_group_asked_R1 : Code := cAt [1, 1, 1] slices_stableCmpFunc_group_asked_b
noncomputable def slices_stableCmpFunc_group_asked_L2 : Code := cAt [1, 1, 1, 1, 0, 0] slices_stableCmpFunc_group_asked_b
noncomputable def slices_stableCmpFunc_group_asked_L3 : Code := cAt [1, 1, 1, 1, 0, 0, 1, 0, 1, 0, 0, 0] slices_stableCmpFunc_group_asked_b
noncomputable def slices_stableCmpFunc_group_asked_R4 : Code := cAt [1, 1, 1, 1, 0, 0, 1, 0, 1, 1] slices_stableCmpFunc_group_asked_b
noncomputable def slices_stableCmpFunc_group_asked_R5 : Code := cAt [1, 1, 1, 1, 0, 0, 1, 0, 1, 1, 1] slices_stableCmpFunc_group_asked_b
noncomputable def slices_stableCmpFunc_group_asked_L0_F (z : At) (K : Exit → Sl → World → Prop) (ρ : Sl) (w : World) : Prop :=
  BK Tryd.prog .leq 3 (.tmp 11) (.tmp 12) (ρ 8) (ρ 1) w fun x13 w => CondK x13 (CK Tryd.prog (Value.func (Fn.func 123) #[] #[]) [(ρ 0), (ρ 7), (ρ 8), (ρ 2)] w fun x18 w => BK Tryd.prog .add 3 (.tmp 20) (.tmp 21) (ρ 8) (ρ 6) w fun x22 w => K .normal (up (up (up (up (up (up (up (up (up (up (up (up (up (up ρ 11 (ρ 8)) 12 (ρ 1)) 13 x13) 14 (ρ 0)) 15 (ρ 7)) 16 (ρ 8)) 17 (ρ 2)) 18 x18) 19 (ρ 8)) 7 (ρ 8)) 20 (ρ 8)) 21 (ρ 6)) 22 x22) 8 x22) w) (K (.exit 0) (up (up (up ρ 11 (ρ 8)) 12 (ρ 1)) 13 x13) w)
theorem slices_stableCmpFunc_group_asked_L0_eq (z : At) (K : Exit → Sl → World → Prop) (ρ : Sl) (w : World) : sx z Tryd.prog 63 slices_stableCmpFunc_group_asked_L0 K ρ w = slices_stableCmpFunc_group_asked_L0_F z K ρ w := by kernel_rfl
theorem slices_stableCmpFunc_group_asked_L0_ok : dstOk 63 slices_stableCmpFunc_group_asked_L0 = true := by kernel_rfl
noncomputable def slices_stableCmpFunc_group_asked_R1_F (z : At) (K : Exit → Sl → World → Prop) (ρ : Sl) (w : World) : Prop :=
  CK Tryd.prog (Value.func (Fn.func 123) #[] #[]) [(ρ 0), (ρ 7), (ρ 1), (ρ 2)] w fun x27 w => W z Tryd.prog 63 (Code.loop slices_stableCmpFunc_group_asked_L2) (blkK 2 K) (up (up (up (up (up ρ 23 (ρ 0)) 24 (ρ 7)) 25 (ρ 1)) 26 (ρ 2)) 27 x27) w
theorem slices_stableCmpFunc_group_asked_R1_eq (z : At) (K : Exit → Sl → World → Prop) (ρ : Sl) (w : World) : sx z Tryd.prog 63 slices_stableCmpFunc_group_asked_R1 K ρ w = slices_stableCmpFunc_group_asked_R1_F z K ρ w := by kernel_rfl
noncomputable def slices_stableCmpFunc_group_asked_L2_F (z : At) (K : Exit → Sl → World → Prop) (ρ : Sl) (w : World) : Prop :=
  BK Tryd.prog .lss 3 (.tmp 28) (.tmp 29) (ρ 6) (ρ 1) w fun x30 w => CondK x30 (BK Tryd.prog .mul 3 (.const (Value.int .i64 2)) (.tmp 31) (Value.int .i64 2) (ρ 6) w fun x32 w => W z Tryd.prog 63 (Code.loop slices_stableCmpFunc_group_asked_L3) (blkK 4 (seqK (sx z Tryd.prog 63 slices_stableCmpFunc_group_asked_R4 (blkK 3 K)) (blkK 3 K))) (up (up (up (up (up (up (up ρ 28 (ρ 6)) 29 (ρ 1)) 30 x30) 31 (ρ 6)) 32 x32) 7 (Value.int .i64 0)) 8 x32) w) (K (.exit 2) (up (up (up ρ 28 (ρ 6)) 29 (ρ 1)) 30 x30) w)
theorem slices_stableCmpFunc_group_asked_L2_eq (z : At) (K : Exit → Sl → World → Prop) (ρ : Sl) (w : World) : sx z Tryd.prog 63 slices_stableCmpFunc_group_asked_L2 K ρ w = slices_stableCmpFunc_group_asked_L2_F z K ρ w := by kernel_rfl
theorem slices_stableCmpFunc_group_asked_L2_ok : dstOk 63 slices_stableCmpFunc_group_asked_L2 = true := by kernel_rfl
noncomputable def slices_stableCmpFunc_group_asked_L3_F (z : At) (K : Exit → Sl → World → Prop) (ρ : Sl) (w : World) : Prop :=
  BK Tryd.prog .leq 3 (.tmp 33) (.tmp 34) (ρ 8) (ρ 1) w fun x35 w => CondK x35 (BK Tryd.prog .add 3 (.tmp 38) (.tmp 39) (ρ 7) (ρ 6) w fun x40 w => CK Tryd.prog (Value.func (Fn.func 124) #[] #[]) [(ρ 0), (ρ 7), x40, (ρ 8), (ρ 2)] w fun x43 w => BK Tryd.prog .mul 3 (.const (Value.int .i64 2)) (.tmp 46) (Value.int .i64 2) (ρ 6) w fun x47 w => BK Tryd.prog .add 3 (.tmp 45) (.tmp 47) (ρ 8) x47 w fun x48 w => K .normal (up (up (up (up (up (up (up (up (up (up (up (up (up (up (up (up (up (up ρ 33 (ρ 8)) 34 (ρ 1)) 35 x35) 36 (ρ 0)) 37 (ρ 7)) 38 (ρ 7)) 39 (ρ 6)) 40 x40) 41 (ρ 8)) 42 (ρ 2)) 43 x43) 44 (ρ 8)) 7 (ρ 8)) 45 (ρ 8)) 46 (ρ 6)) 47 x47) 48 x48) 8 x48) w) (K (.exit 4) (up (up (up ρ 33 (ρ 8)) 34 (ρ 1)) 35 x35) w)
theorem slices_stableCmpFunc_group_asked_L3_eq (z : At) (K : Exit → Sl → World → Prop) (ρ : Sl) (w : World) : sx z Tryd.prog 63 slices_stableCmpFunc_group_asked_L3 K ρ w = slices_stableCmpFunc_group_asked_L3_F z K ρ w := by kernel_rfl
theorem slices_stableCmpFunc_group_asked_L3_ok : dstOk 63 slices_stableCmpFunc_group_asked_L3 = true := by kernel_rfl
noncomputable def slices_stableCmpFunc_group_asked_R4_F (z : At) (K : Exit → Sl → World → Prop) (ρ : Sl) (w : World) : Prop :=
  BK Tryd.prog .add 3 (.tmp 49) (.tmp 50) (ρ 7) (ρ 6) w fun x51 w => BK Tryd.prog .lss 3 (.tmp 52) (.tmp 53) x51 (ρ 1) w fun x54 w => CondK x54 (CK Tryd.prog (Value.func (Fn.func 124) #[] #[]) [(ρ 0), (ρ 7), x51, (ρ 1), (ρ 2)] w fun x60 w => sx z Tryd.prog 63 slices_stableCmpFunc_group_asked_R5 K (up (up (up (up (up (up (up (up (up (up (up (up (up ρ 49 (ρ 7)) 50 (ρ 6)) 51 x51) 9 x51) 52 x51) 53 (ρ 1)) 54 x54) 55 (ρ 0)) 56 (ρ 7)) 57 x51) 58 (ρ 1)) 59 (ρ 2)) 60 x60) w) (sx z Tryd.prog 63 slices_stableCmpFunc_group_asked_R5 K (up (up (up (up (up (up (up ρ 49 (ρ 7)) 50 (ρ 6)) 51 x51) 9 x51) 52 x51) 53 (ρ 1)) 54 x54) w)
theorem slices_stableCmpFunc_group_asked_R4_eq (z : At) (K : Exit → Sl → World → Prop) (ρ : Sl) (w : World) : sx z Tryd.prog 63 slices_stableCmpFunc_group_asked_R4 K ρ w = slices_stableCmpFunc_group_asked_R4_F z K ρ w := by kernel_rfl
noncomputable def slices_stableCmpFunc_group_asked_R5_F (z : At) (K : Exit → Sl → World → Prop) (ρ : Sl) (w : World) : Prop :=
  BK Tryd.prog .mul 3 (.tmp 61) (.const (Value.int .i64 2)) (ρ 6) (Value.int .i64 2) w fun x62 w => K .normal (up (up (up ρ 61 (ρ 6)) 62 x62) 6 x62) w
theorem slices_stableCmpFunc_group_asked_R5_eq (z : At) (K : Exit → Sl → World → Prop) (ρ : Sl) (w : World) : sx z Tryd.prog 63 slices_stableCmpFunc_group_asked_R5 K ρ w = slices_stableCmpFunc_group_asked_R5_F z K ρ w := by kernel_rfl
noncomputable def slices_stableCmpFunc_group_asked_F (a0 a1 a2 : Value) (w : World) (R : Value → World → Prop) : Prop :=
  W fn_ Tryd.prog 63 (Code.loop slices_stableCmpFunc_group_asked_L0) (blkK 0 (seqK (sx fn_ Tryd.prog 63 slices_stableCmpFunc_group_asked_R1 (retK Tryd.prog [] R)) (retK Tryd.prog [] R))) (up (up (up (up (rho0 [a0, a1, a2]) 6 (Value.int .i64 20)) 10 (Value.int .i64 20)) 7 (Value.int .i64 0)) 8 (Value.int .i64 20)) w
theorem slices_stableCmpFunc_group_asked_eq (a0 a1 a2 : Value) (w : World) (R : Value → World → Prop) : sx fn_ Tryd.prog 63 slices_stableCmpFunc_group_asked_b (retK Tryd.prog Tryd.f118.results.toList R) (rho0 [a0, a1, a2]) w = slices_stableCmpFunc_group_asked_F a0 a1 a2 w R := by kernel_rfl
theorem slices_stableCmpFunc_group_asked_calls {a0 a1 a2 : Value} {w : World} {R : Value → World → Prop} (h : slices_stableCmpFunc_group_asked_F a0 a1 a2 w R) : Calls Tryd.prog 118 #[a0, a1, a2] w fun e w' => ∃ v, e = .returned v ∧ R v w' :=
  Go.X.calls_of_sx (n := 63) (c := slices_stableCmpFunc_group_asked_b) Tryd.func118 (by kernel_rfl) (by kernel_rfl) (Nat.le_of_ble_eq_true rfl) (by kernel_rfl) (Eq.mpr (slices_stableCmpFunc_group_asked_eq a0 a1 a2 w R) h)
noncomputable def cmp_isNaN_int_b : Code := (Tryd.f119.body).getD .skip
noncomputable def cmp_isNaN_int_F (a0 : Value) (w : World) (R : Value → World → Prop) : Prop :=
  BK Tryd.prog .neq 3 (.tmp 3) (.tmp 4) a0 a0 w fun x5 w => R x5 w
theorem cmp_isNaN_int_eq (a0 : Value) (w : World) (R : Value → World → Prop) : sx fn_ Tryd.prog 6 cmp_isNaN_int_b (retK Tryd.prog Tryd.f119.results.toList R) (rho0 [a0]) w = cmp_isNaN_int_F a0 w R := by kernel_rfl
theorem cmp_isNaN_int_calls {a0 : Value} {w : World} {R : Value → World → Prop} (h : cmp_isNaN_int_F a0 w R) : Calls Tryd.prog 119 #[a0] w fun e w' => ∃ v, e = .returned v ∧ R v w' :=
  Go.X.calls_of_sx (n := 6) (c := cmp_isNaN_int_b) Tryd.func119 (by kernel_rfl) (by kernel_rfl) (Nat.le_of_ble_eq_true rfl) (by kernel_rfl) (Eq.mpr (cmp_isNaN_int_eq a0 w R) h)
noncomputable def slices_insertionSortCmpFunc_group_asked_b : Code := (Tryd.f123.body).getD .skip
noncomputable def slices_insertionSortCmpFunc_group_asked_L0 : Code := cAt [1, 0, 0] slices_insertionSortCmpFunc_group_asked_b
noncomputable def slices_insertionSortCmpFunc_group_asked_L1 : Code := cAt [1, 0, 0, 1, 0, 0, 1, 0, 0] slices_insertionSortCmpFunc_group_asked_b
noncomputable def slices_insertionSortCmpFunc_group_asked_R2 : Code := cAt [1, 0, 0, 1, 1] slices_insertionSortCmpFunc_group_asked_b
noncomputable def slices_insertionSortCmpFunc_group_asked_R3 : Code := cAt [1, 0, 0, 1, 0, 0, 1, 0, 0, 0, 0] slices_insertionSortCmpFunc_group_asked_b
noncomputable def slices_insertionSortCmpFunc_group_asked_R4 : Code := cAt [1, 0, 0, 1, 0, 0, 1, 0, 0, 0, 1] slices_insertionSortCmpFunc_group_asked_b
noncomputable def slices_insertionSortCmpFunc_group_asked_R5 : Code := cAt [1, 0, 0, 1, 0, 0, 1, 0, 0, 1] slices_insertionSortCmpFunc_group_asked_b
noncomputable def slices_insertionSortCmpFunc_group_asked_R6 : Code := cAt [1, 0, 0, 1, 0, 0, 1, 0, 0, 1, 0, 0] slices_insertionSortCmpFunc_group_asked_b
noncomputable def slices_insertionSortCmpFunc_group_asked_R7 : Code := cAt [1, 0, 0, 1, 0, 0, 1, 0, 0, 1, 1] slices_insertionSortCmpFunc_group_asked_b
noncomputable def slices_insertionSortCmpFunc_group_asked_L0_F (z : At) (K : Exit → Sl → World → Prop) (ρ : Sl) (w : World) : Prop :=
  BK Tryd.prog .lss 3 (.tmp 12) (.tmp 13) (ρ 8) (ρ 2) w fun x14 w => CondK x14 (W z Tryd.prog 53 (Code.loop slices_insertionSortCmpFunc_group_asked_L1) (blkK 2 (blkK 1 (seqK (sx z Tryd.prog 53 slices_insertionSortCmpFunc_group_asked_R2 K) K))) (up (up (up (up (up ρ 12 (ρ 8)) 13 (ρ 2)) 14 x14) 17 (ρ 8)) 9 (ρ 8)) w) (K (.exit 0) (up (up (up ρ 12 (ρ 8)) 13 (ρ 2)) 14 x14) w)
theorem slices_insertionSortCmpFunc_group_asked_L0_eq (z : At) (K : Exit → Sl → World → Prop) (ρ : Sl) (w : World) : sx z Tryd.prog 53 slices_insertionSortCmpFunc_group_asked_L0 K ρ w = slices_insertionSortCmpFunc_group_asked_L0_F z K ρ w := by kernel_rfl
theorem slices_insertionSortCmpFunc_group_asked_L0_ok : dstOk 53 slices_insertionSortCmpFunc_group_asked_L0 = true := by kernel_rfl
noncomputable def slices_insertionSortCmpFunc_group_asked_L1_F (z : At) (K : Exit → Sl → World → Prop) (ρ : Sl) (w : World) : Prop :=
  W z Tryd.prog 53 slices_insertionSortCmpFunc_group_asked_R3 (seqK (sx z Tryd.prog 53 slices_insertionSortCmpFunc_group_asked_R4 (seqK (sx z Tryd.prog 53 slices_insertionSortCmpFunc_group_asked_R5 K) K)) (seqK (sx z Tryd.prog 53 slices_insertionSortCmpFunc_group_asked_R5 K) K)) ρ w
theorem slices_insertionSortCmpFunc_group_asked_L1_eq (z : At) (K : Exit → Sl → World → Prop) (ρ : Sl) (w : World) : sx z Tryd.prog 53 slices_insertionSortCmpFunc_group_asked_L1 K ρ w = slices_insertionSortCmpFunc_group_asked_L1_F z K ρ w := by kernel_rfl
theorem slices_insertionSortCmpFunc_group_asked_L1_ok : dstOk 53 slices_insertionSortCmpFunc_group_asked_L1 = true := by kernel_rfl
noncomputable def slices_insertionSortCmpFunc_group_asked_R2_F (z : At) (K : Exit → Sl → World → Prop) (ρ : Sl) (w : World) : Prop :=
  BK Tryd.prog .add 3 (.tmp 15) (.const (Value.int .i64 1)) (ρ 8) (Value.int .i64 1) w fun x16 w => K .normal (up (up (up ρ 15 (ρ 8)) 16 x16) 8 x16) w
theorem slices_insertionSortCmpFunc_group_asked_R2_eq (z : At) (K : Exit → Sl → World → Prop) (ρ : Sl) (w : World) : sx z Tryd.prog 53 slices_insertionSortCmpFunc_group_asked_R2 K ρ w = slices_insertionSortCmpFunc_group_asked_R2_F z K ρ w := by kernel_rfl
noncomputable def slices_insertionSortCmpFunc_group_asked_R3_ops : Array Oper := opsOf slices_insertionSortCmpFunc_group_asked_R3
def slices_insertionSortCmpFunc_group_asked_R3_Q (C : World → Prop) (K : Exit → Sl → World → Prop) (ρ : Sl) : Prop :=
  QK Tryd.prog C (do pure (Next.value (← (do eqGuard BinOp.gtr 3 (Operand.tmp 18) (Operand.tmp 19) (ρ 9) (ρ 1); binOp BinOp.gtr 3 (ρ 9) (ρ 1))))) fun x20 => QG Tryd.prog C x20 true  (pure (Next.value (ρ 3))) fun x22 => QG Tryd.prog C x20 true  (pure (Next.value (ρ 0))) fun x23 => QG Tryd.prog C x20 true  (pure (Next.value (ρ 9))) fun x24 => QG Tryd.prog C x20 true  (do pure (Next.value (← Instr.indexAt 159 x23 x24))) fun x25 => QG Tryd.prog C x20 true  (do pure (Next.value (← Instr.loadAt 161 x25))) fun x26 => QG Tryd.prog C x20 true  (pure (Next.value (ρ 0))) fun x27 => QG Tryd.prog C x20 true  (pure (Next.value (ρ 9))) fun x28 => QG Tryd.prog C x20 true  (do pure (Next.value (← (do eqGuard BinOp.sub 3 (Operand.tmp 28) (Operand.const (Value.int IntKind.i64 1)) x28 (Value.int IntKind.i64 1); binOp BinOp.sub 3 x28 (Value.int IntKind.i64 1))))) fun x29 => QG Tryd.prog C x20 true  (do pure (Next.value (← Instr.indexAt 159 x27 x29))) fun x30 => QG Tryd.prog C x20 true  (do pure (Next.value (← Instr.loadAt 161 x30))) fun x31 => QG Tryd.prog C x20 true  (do let d ← Deferred.ofValue x22 [x26, x31].toArray; invoke d.target d.args) fun x32 => QG Tryd.prog C x20 true  (do pure (Next.value (← (do eqGuard BinOp.lss 3 (Operand.tmp 32) (Operand.const (Value.int IntKind.i64 0)) x32 (Value.int IntKind.i64 0); binOp BinOp.lss 3 x32 (Value.int IntKind.i64 0))))) fun x33 => QK Tryd.prog C (do pure (Next.value (if ← asBool x20 then x33 else (Value.bool false)))) fun x34 => ∀ w', C w' → K Exit.normal (up (up (up (up (up (up (up (up (up (up (up (up (up (up (up (up (up ρ 18 (ρ 9)) 19 (ρ 1)) 20 x20) 21 x20) 22 x22) 23 x23) 24 x24) 25 x25) 26 x26) 27 x27) 28 x28) 29 x29) 30 x30) 31 x31) 32 x32) 33 x33) 34 x34) w'
theorem slices_insertionSortCmpFunc_group_asked_R3_quiet {D : List Deferred} (C : World → Prop) {K : Exit → Sl → World → Prop} {ρ : Sl} {w : World} (hC : C { w with drawn := w.drawn + 1 }) (h : slices_insertionSortCmpFunc_group_asked_R3_Q C K ρ) : W ⟨none, D⟩ Tryd.prog 53 slices_insertionSortCmpFunc_group_asked_R3 K ρ w := by
  have e : slices_insertionSortCmpFunc_group_asked_R3 = .region (idOf slices_insertionSortCmpFunc_group_asked_R3) slices_insertionSortCmpFunc_group_asked_R3_ops true := by kernel_rfl
  have q : sxq Tryd.prog C slices_insertionSortCmpFunc_group_asked_R3_ops (fun ρ' => ∀ w', C w' → K .normal ρ' w') slices_insertionSortCmpFunc_group_asked_R3_ops.toList ρ = slices_insertionSortCmpFunc_group_asked_R3_Q C K ρ := by kernel_rfl
  rw [e]
  exact W_quiet C (by kernel_rfl) (by kernel_rfl) (by kernel_rfl) hC (Eq.mpr q h)
noncomputable def slices_insertionSortCmpFunc_group_asked_R4_F (z : At) (K : Exit → Sl → World → Prop) (ρ : Sl) (w : World) : Prop :=
  CondK (ρ 34) (K .normal ρ w) (K (.exit 2) ρ w)
theorem slices_insertionSortCmpFunc_group_asked_R4_eq (z : At) (K : Exit → Sl → World → Prop) (ρ : Sl) (w : World) : sx z Tryd.prog 53 slices_insertionSortCmpFunc_group_asked_R4 K ρ w = slices_insertionSortCmpFunc_group_asked_R4_F z K ρ w := by kernel_rfl
noncomputable def slices_insertionSortCmpFunc_group_asked_R5_F (z : At) (K : Exit → Sl → World → Prop) (ρ : Sl) (w : World) : Prop :=
  W z Tryd.prog 53 slices_insertionSortCmpFunc_group_asked_R6 (blkK 3 (seqK (sx z Tryd.prog 53 slices_insertionSortCmpFunc_group_asked_R7 K) K)) ρ w
theorem slices_insertionSortCmpFunc_group_asked_R5_eq (z : At) (K : Exit → Sl → World → Prop) (ρ : Sl) (w : World) : sx z Tryd.prog 53 slices_insertionSortCmpFunc_group_asked_R5 K ρ w = slices_insertionSortCmpFunc_group_asked_R5_F z K ρ w := by kernel_rfl
noncomputable def slices_insertionSortCmpFunc_group_asked_R6_ops : Array Oper := opsOf slices_insertionSortCmpFunc_group_asked_R6
def slices_insertionSortCmpFunc_group_asked_R6_H (S : World → Prop) (K : Exit → Sl → World → Prop) (ρ : Sl) (w : World) : Prop :=
  HK Tryd.prog S (do pure (Next.value (← (do eqGuard BinOp.sub 3 (Operand.tmp 40) (Operand.const (Value.int IntKind.i64 1)) (ρ 9) (Value.int IntKind.i64 1); binOp BinOp.sub 3 (ρ 9) (Value.int IntKind.i64 1))))) fun x41 => HK Tryd.prog S (do pure (Next.value (← (do eqGuard BinOp.sub 3 (Operand.tmp 43) (Operand.const (Value.int IntKind.i64 1)) (ρ 9) (Value.int IntKind.i64 1); binOp BinOp.sub 3 (ρ 9) (Value.int IntKind.i64 1))))) fun x44 => HK Tryd.prog S (do pure (Next.value (← Instr.indexAt 159 (ρ 0) x44))) fun x45 => HK Tryd.prog S (do pure (Next.value (← Instr.indexAt 159 (ρ 0) (ρ 9)))) fun x49 => (VK Tryd.prog (Instr.loadAt 161 x45) w fun x46 w => S w ∧ (VK Tryd.prog (Instr.loadAt 161 x49) w fun x50 w => S w ∧ (HK Tryd.prog S (do pure (Next.value (← Instr.indexAt 159 (ρ 0) (ρ 9)))) fun x51 => UK Tryd.prog (Instr.storeAt 161 x51 x46) w fun _ w => S w ∧ (HK Tryd.prog S (do pure (Next.value (← Instr.indexAt 159 (ρ 0) x41))) fun x52 => UK Tryd.prog (Instr.storeAt 161 x52 x50) w fun _ w => S w ∧ (K Exit.normal (up (up (up (up (up (up (up (up (up (up (up (up (up (up (up (up ρ 37 (ρ 0)) 38 (ρ 9)) 39 (ρ 0)) 40 (ρ 9)) 41 x41) 42 (ρ 0)) 43 (ρ 9)) 44 x44) 45 x45) 47 (ρ 0)) 48 (ρ 9)) 49 x49) 46 x46) 50 x50) 51 x51) 52 x52) w))))) ∧ (VK Tryd.prog (Instr.loadAt 161 x49) w fun x50_1 w => S w ∧ (VK Tryd.prog (Instr.loadAt 161 x45) w fun x46_1 w => S w ∧ (HK Tryd.prog S (do pure (Next.value (← Instr.indexAt 159 (ρ 0) (ρ 9)))) fun x51_1 => UK Tryd.prog (Instr.storeAt 161 x51_1 x46_1) w fun _ w => S w ∧ (HK Tryd.prog S (do pure (Next.value (← Instr.indexAt 159 (ρ 0) x41))) fun x52_1 => UK Tryd.prog (Instr.storeAt 161 x52_1 x50_1) w fun _ w => S w ∧ (K Exit.normal (up (up (up (up (up (up (up (up (up (up (up (up (up (up (up (up ρ 37 (ρ 0)) 38 (ρ 9)) 39 (ρ 0)) 40 (ρ 9)) 41 x41) 42 (ρ 0)) 43 (ρ 9)) 44 x44) 45 x45) 47 (ρ 0)) 48 (ρ 9)) 49 x49) 50 x50_1) 46 x46_1) 51 x51_1) 52 x52_1) w)))))
theorem slices_insertionSortCmpFunc_group_asked_R6_held {D : List Deferred} (S : World → Prop) {K : Exit → Sl → World → Prop} {ρ : Sl} {w : World} (hS : S { w with drawn := w.drawn + 1 }) (h : slices_insertionSortCmpFunc_group_asked_R6_H S K ρ { w with drawn := w.drawn + 1 }) : W ⟨none, D⟩ Tryd.prog 53 slices_insertionSortCmpFunc_group_asked_R6 K ρ w := by
  have e : slices_insertionSortCmpFunc_group_asked_R6 = .region (idOf slices_insertionSortCmpFunc_group_asked_R6) slices_insertionSortCmpFunc_group_asked_R6_ops true := by kernel_rfl
  have q : sxd Tryd.prog S slices_insertionSortCmpFunc_group_asked_R6_ops (K .normal) (Pd.take 0 (Pd.take 1 (Pd.take 2 (Pd.take 3 (Pd.take 4 (Pd.take 5 (Pd.take 6 (Pd.take 7 (Pd.take 8 (Pd.take 10 (Pd.take 11 (Pd.take 12 (Pd.two false false 9 13 (Pd.only false 13 (Pd.take 14 (Pd.only false 15 (Pd.take 16 (Pd.only false 17 Pd.done))))) (Pd.only false 9 (Pd.take 14 (Pd.only false 15 (Pd.take 16 (Pd.only false 17 Pd.done)))))))))))))))))) ρ { w with drawn := w.drawn + 1 } = slices_insertionSortCmpFunc_group_asked_R6_H S K ρ { w with drawn := w.drawn + 1 } := by kernel_rfl
  rw [e]
  exact W_pland S (Pd.take 0 (Pd.take 1 (Pd.take 2 (Pd.take 3 (Pd.take 4 (Pd.take 5 (Pd.take 6 (Pd.take 7 (Pd.take 8 (Pd.take 10 (Pd.take 11 (Pd.take 12 (Pd.two false false 9 13 (Pd.only false 13 (Pd.take 14 (Pd.only false 15 (Pd.take 16 (Pd.only false 17 Pd.done))))) (Pd.only false 9 (Pd.take 14 (Pd.only false 15 (Pd.take 16 (Pd.only false 17 Pd.done)))))))))))))))))) (by kernel_rfl) (by kernel_rfl) (by kernel_rfl) (by kernel_rfl) hS (Eq.mpr q h)
noncomputable def slices_insertionSortCmpFunc_group_asked_R7_F (z : At) (K : Exit → Sl → World → Prop) (ρ : Sl) (w : World) : Prop :=
  BK Tryd.prog .sub 3 (.tmp 35) (.const (Value.int .i64 1)) (ρ 9) (Value.int .i64 1) w fun x36 w => K .normal (up (up (up ρ 35 (ρ 9)) 36 x36) 9 x36) w
theorem slices_insertionSortCmpFunc_group_asked_R7_eq (z : At) (K : Exit → Sl → World → Prop) (ρ : Sl) (w : World) : sx z Tryd.prog 53 slices_insertionSortCmpFunc_group_asked_R7 K ρ w = slices_insertionSortCmpFunc_group_asked_R7_F z K ρ w := by kernel_rfl
noncomputable def slices_insertionSortCmpFunc_group_asked_F (a0 a1 a2 a3 : Value) (w : World) (R : Value → World → Prop) : Prop :=
  BK Tryd.prog .add 3 (.tmp 10) (.const (Value.int .i64 1)) a1 (Value.int .i64 1) w fun x11 w => W fn_ Tryd.prog 53 (Code.loop slices_insertionSortCmpFunc_group_asked_L0) (blkK 0 (retK Tryd.prog [] R)) (up (up (up (rho0 [a0, a1, a2, a3]) 10 a1) 11 x11) 8 x11) w
theorem slices_insertionSortCmpFunc_group_asked_eq (a0 a1 a2 a3 : Value) (w : World) (R : Value → World → Prop) : sx fn_ Tryd.prog 53 slices_insertionSortCmpFunc_group_asked_b (retK Tryd.prog Tryd.f123.results.toList R) (rho0 [a0, a1, a2, a3]) w = slices_insertionSortCmpFunc_group_asked_F a0 a1 a2 a3 w R := by kernel_rfl
theorem slices_insertionSortCmpFunc_group_asked_calls {a0 a1 a2 a3 : Value} {w : World} {R : Value → World → Prop} (h : slices_insertionSortCmpFunc_group_asked_F a0 a1 a2 a3 w R) : Calls Tryd.prog 123 #[a0, a1, a2, a3] w fun e w' => ∃ v, e = .returned v ∧ R v w' :=
  Go.X.calls_of_sx (n := 53) (c := slices_insertionSortCmpFunc_group_asked_b) Tryd.func123 (by kernel_rfl) (by kernel_rfl) (Nat.le_of_ble_eq_true rfl) (by kernel_rfl) (Eq.mpr (slices_insertionSortCmpFunc_group_asked_eq a0 a1 a2 a3 w R) h)
noncomputable def slices_symMergeCmpFunc_group_asked_b : Code := (Tryd.f124.body).getD .skip
noncomputable def slices_symMergeCmpFunc_group_asked_L0 : Code := cAt [0, 1, 0, 1, 1, 0, 0, 0] slices_symMergeCmpFunc_group_asked_b
noncomputable def slices_symMergeCmpFunc_group_asked_R1 : Code := cAt [0, 1, 0, 1, 1, 1] slices_symMergeCmpFunc_group_asked_b
noncomputable def slices_symMergeCmpFunc_group_asked_R2 : Code := cAt [1] slices_symMergeCmpFunc_group_asked_b
noncomputable def slices_symMergeCmpFunc_group_asked_L3 : Code := cAt [1, 0, 1, 0, 1, 1, 0, 0, 0] slices_symMergeCmpFunc_group_asked_b
noncomputable def slices_symMergeCmpFunc_group_asked_R4 : Code := cAt [1, 0, 1, 0, 1, 1, 1] slices_symMergeCmpFunc_group_asked_b
noncomputable def slices_symMergeCmpFunc_group_asked_R5 : Code := cAt [1, 1] slices_symMergeCmpFunc_group_asked_b
noncomputable def slices_symMergeCmpFunc_group_asked_R6 : Code := cAt [1, 1, 1, 1, 1, 0, 1] slices_symMergeCmpFunc_group_asked_b
noncomputable def slices_symMergeCmpFunc_group_asked_R7 : Code := cAt [1, 1, 1, 1, 1, 1] slices_symMergeCmpFunc_group_asked_b
noncomputable def slices_symMergeCmpFunc_group_asked_R8 : Code := cAt [0, 1, 0, 1, 1, 0, 0, 0, 1, 0, 1, 0] slices_symMergeCmpFunc_group_asked_b
noncomputable def slices_symMergeCmpFunc_group_asked_R9 : Code := cAt [0, 1, 0, 1, 1, 0, 0, 0, 1, 0, 1, 1] slices_symMergeCmpFunc_group_asked_b
noncomputable def slices_symMergeCmpFunc_group_asked_L10 : Code := cAt [0, 1, 0, 1, 1, 1, 0, 1, 0, 0] slices_symMergeCmpFunc_group_asked_b
noncomputable def slices_symMergeCmpFunc_group_asked_R11 : Code := cAt [0, 1, 0, 1, 1, 1, 1] slices_symMergeCmpFunc_group_asked_b
noncomputable def slices_symMergeCmpFunc_group_asked_R13 : Code := cAt [1, 0, 1, 0, 1, 1, 0, 0, 0, 1, 0, 1, 0] slices_symMergeCmpFunc_group_asked_b
noncomputable def slices_symMergeCmpFunc_group_asked_R14 : Code := cAt [1, 0, 1, 0, 1, 1, 0, 0, 0, 1, 0, 1, 1] slices_symMergeCmpFunc_group_asked_b
noncomputable def slices_symMergeCmpFunc_group_asked_L15 : Code := cAt [1, 0, 1, 0, 1, 1, 1, 0, 1, 0, 0] slices_symMergeCmpFunc_group_asked_b
noncomputable def slices_symMergeCmpFunc_group_asked_R16 : Code := cAt [1, 0, 1, 0, 1, 1, 1, 1] slices_symMergeCmpFunc_group_asked_b
noncomputable def slices_symMergeCmpFunc_group_asked_L17 : Code := cAt [1, 1, 1, 1, 1, 1, 1, 0, 0, 0] slices_symMergeCmpFunc_group_asked_b
noncomputable def slices_symMergeCmpFunc_group_asked_R18 : Code := cAt [1, 1, 1, 1, 1, 1, 1, 1] slices_symMergeCmpFunc_group_asked_b
noncomputable def slices_symMergeCmpFunc_group_asked_R19 : Code := cAt [0, 1, 0, 1, 1, 1, 0, 1, 0, 0, 1, 0, 0] slices_symMergeCmpFunc_group_asked_b
noncomputable def slices_symMergeCmpFunc_group_asked_R20 : Code := cAt [0, 1, 0, 1, 1, 1, 0, 1, 0, 0, 1, 1] slices_symMergeCmpFunc_group_asked_b
noncomputable def slices_symMergeCmpFunc_group_asked_R21 : Code := cAt [1, 0, 1, 0, 1, 1, 1, 0, 1, 0, 0, 1, 0, 0] slices_symMergeCmpFunc_group_asked_b
noncomputable def slices_symMergeCmpFunc_group_asked_R22 : Code := cAt [1, 0, 1, 0, 1, 1, 1, 0, 1, 0, 0, 1, 1] slices_symMergeCmpFunc_group_asked_b
noncomputable def slices_symMergeCmpFunc_group_asked_R23 : Code := cAt [1, 1, 1, 1, 1, 1, 1, 0, 0, 0, 1, 0, 1, 0] slices_symMergeCmpFunc_group_asked_b
noncomputable def slices_symMergeCmpFunc_group_asked_R24 : Code := cAt [1, 1, 1, 1, 1, 1, 1, 0, 0, 0, 1, 0, 1, 1] slices_symMergeCmpFunc_group_asked_b
noncomputable def slices_symMergeCmpFunc_group_asked_R25 : Code := cAt [1, 1, 1, 1, 1, 1, 1, 1, 1, 1] slices_symMergeCmpFunc_group_asked_b
noncomputable def slices_symMergeCmpFunc_group_asked_R26 : Code := cAt [1, 1, 1, 1, 1, 1, 1, 1, 1, 1, 1] slices_symMergeCmpFunc_group_asked_b
noncomputable def slices_symMergeCmpFunc_group_asked_L0_F (z : At) (K : Exit → Sl → World → Prop) (ρ : Sl) (w : World) : Prop :=
  BK Tryd.prog .lss 3 (.tmp 31) (.tmp 32) (ρ 10) (ρ 11) w fun x33 w => CondK x33 (BK Tryd.prog .add 3 (.tmp 34) (.tmp 35) (ρ 10) (ρ 11) w fun x36 w => VK Tryd.prog (convert 3 138 x36) w fun x37 w => BK Tryd.prog .shr 138 (.tmp 37) (.const (Value.int .u64 1)) x37 (Value.int .u64 1) w fun x38 w => VK Tryd.prog (convert 138 3 x38) w fun x39 w => W z Tryd.prog 220 slices_symMergeCmpFunc_group_asked_R8 (seqK (sx z Tryd.prog 220 slices_symMergeCmpFunc_group_asked_R9 (blkK 1 K)) (blkK 1 K)) (up (up (up (up (up (up (up (up (up (up ρ 31 (ρ 10)) 32 (ρ 11)) 33 x33) 34 (ρ 10)) 35 (ρ 11)) 36 x36) 37 x37) 38 x38) 39 x39) 12 x39) w) (K (.exit 0) (up (up (up ρ 31 (ρ 10)) 32 (ρ 11)) 33 x33) w)
theorem slices_symMergeCmpFunc_group_asked_L0_eq (z : At) (K : Exit → Sl → World → Prop) (ρ : Sl) (w : World) : sx z Tryd.prog 220 slices_symMergeCmpFunc_group_asked_L0 K ρ w = slices_symMergeCmpFunc_group_asked_L0_F z K ρ w := by kernel_rfl
theorem slices_symMergeCmpFunc_group_asked_L0_ok : dstOk 220 slices_symMergeCmpFunc_group_asked_L0 = true := by kernel_rfl
noncomputable def slices_symMergeCmpFunc_group_asked_R1_F (z : At) (K : Exit → Sl → World → Prop) (ρ : Sl) (w : World) : Prop :=
  W z Tryd.prog 220 (Code.loop slices_symMergeCmpFunc_group_asked_L10) (blkK 2 (seqK (sx z Tryd.prog 220 slices_symMergeCmpFunc_group_asked_R11 K) K)) (up (up ρ 54 (ρ 1)) 13 (ρ 1)) w
theorem slices_symMergeCmpFunc_group_asked_R1_eq (z : At) (K : Exit → Sl → World → Prop) (ρ : Sl) (w : World) : sx z Tryd.prog 220 slices_symMergeCmpFunc_group_asked_R1 K ρ w = slices_symMergeCmpFunc_group_asked_R1_F z K ρ w := by kernel_rfl
noncomputable def slices_symMergeCmpFunc_group_asked_L3_F (z : At) (K : Exit → Sl → World → Prop) (ρ : Sl) (w : World) : Prop :=
  BK Tryd.prog .lss 3 (.tmp 83) (.tmp 84) (ρ 14) (ρ 15) w fun x85 w => CondK x85 (BK Tryd.prog .add 3 (.tmp 86) (.tmp 87) (ρ 14) (ρ 15) w fun x88 w => VK Tryd.prog (convert 3 138 x88) w fun x89 w => BK Tryd.prog .shr 138 (.tmp 89) (.const (Value.int .u64 1)) x89 (Value.int .u64 1) w fun x90 w => VK Tryd.prog (convert 138 3 x90) w fun x91 w => W z Tryd.prog 220 slices_symMergeCmpFunc_group_asked_R13 (seqK (sx z Tryd.prog 220 slices_symMergeCmpFunc_group_asked_R14 (blkK 5 K)) (blkK 5 K)) (up (up (up (up (up (up (up (up (up (up ρ 83 (ρ 14)) 84 (ρ 15)) 85 x85) 86 (ρ 14)) 87 (ρ 15)) 88 x88) 89 x89) 90 x90) 91 x91) 16 x91) w) (K (.exit 4) (up (up (up ρ 83 (ρ 14)) 84 (ρ 15)) 85 x85) w)
theorem slices_symMergeCmpFunc_group_asked_L3_eq (z : At) (K : Exit → Sl → World → Prop) (ρ : Sl) (w : World) : sx z Tryd.prog 220 slices_symMergeCmpFunc_group_asked_L3 K ρ w = slices_symMergeCmpFunc_group_asked_L3_F z K ρ w := by kernel_rfl
theorem slices_symMergeCmpFunc_group_asked_L3_ok : dstOk 220 slices_symMergeCmpFunc_group_asked_L3 = true := by kernel_rfl
noncomputable def slices_symMergeCmpFunc_group_asked_R4_F (z : At) (K : Exit → Sl → World → Prop) (ρ : Sl) (w : World) : Prop :=
  W z Tryd.prog 220 (Code.loop slices_symMergeCmpFunc_group_asked_L15) (blkK 6 (seqK (sx z Tryd.prog 220 slices_symMergeCmpFunc_group_asked_R16 K) K)) (up (up ρ 107 (ρ 2)) 17 (ρ 2)) w
theorem slices_symMergeCmpFunc_group_asked_R4_eq (z : At) (K : Exit → Sl → World → Prop) (ρ : Sl) (w : World) : sx z Tryd.prog 220 slices_symMergeCmpFunc_group_asked_R4 K ρ w = slices_symMergeCmpFunc_group_asked_R4_F z K ρ w := by kernel_rfl
noncomputable def slices_symMergeCmpFunc_group_asked_R6_F (z : At) (K : Exit → Sl → World → Prop) (ρ : Sl) (w : World) : Prop :=
  CondK (ρ 140) (BK Tryd.prog .sub 3 (.tmp 141) (.tmp 142) (ρ 19) (ρ 3) w fun x143_2 w => K .normal (up (up (up (up (up (up ρ 141 (ρ 19)) 142 (ρ 3)) 143 x143_2) 20 x143_2) 144 (ρ 18)) 21 (ρ 18)) w) (K .normal (up (up (up (up ρ 145 (ρ 1)) 20 (ρ 1)) 146 (ρ 2)) 21 (ρ 2)) w)
theorem slices_symMergeCmpFunc_group_asked_R6_eq (z : At) (K : Exit → Sl → World → Prop) (ρ : Sl) (w : World) : sx z Tryd.prog 220 slices_symMergeCmpFunc_group_asked_R6 K ρ w = slices_symMergeCmpFunc_group_asked_R6_F z K ρ w := by kernel_rfl
noncomputable def slices_symMergeCmpFunc_group_asked_R7_F (z : At) (K : Exit → Sl → World → Prop) (ρ : Sl) (w : World) : Prop :=
  BK Tryd.prog .sub 3 (.tmp 147) (.const (Value.int .i64 1)) (ρ 19) (Value.int .i64 1) w fun x148 w => W z Tryd.prog 220 (Code.loop slices_symMergeCmpFunc_group_asked_L17) (blkK 8 (seqK (sx z Tryd.prog 220 slices_symMergeCmpFunc_group_asked_R18 K) K)) (up (up (up ρ 147 (ρ 19)) 148 x148) 22 x148) w
theorem slices_symMergeCmpFunc_group_asked_R7_eq (z : At) (K : Exit → Sl → World → Prop) (ρ : Sl) (w : World) : sx z Tryd.prog 220 slices_symMergeCmpFunc_group_asked_R7 K ρ w = slices_symMergeCmpFunc_group_asked_R7_F z K ρ w := by kernel_rfl
noncomputable def slices_symMergeCmpFunc_group_asked_R8_ops : Array Oper := opsOf slices_symMergeCmpFunc_group_asked_R8
def slices_symMergeCmpFunc_group_asked_R8_Q (C : World → Prop) (K : Exit → Sl → World → Prop) (ρ : Sl) : Prop :=
  QK Tryd.prog C (do pure (Next.value (← Instr.indexAt 159 (ρ 0) (ρ 12)))) fun x43 => QK Tryd.prog C (do pure (Next.value (← Instr.loadAt 161 x43))) fun x44 => QK Tryd.prog C (do pure (Next.value (← Instr.indexAt 159 (ρ 0) (ρ 1)))) fun x47 => QK Tryd.prog C (do pure (Next.value (← Instr.loadAt 161 x47))) fun x48 => QK Tryd.prog C (do let d ← Deferred.ofValue (ρ 4) [x44, x48].toArray; invoke d.target d.args) fun x49 => QK Tryd.prog C (do pure (Next.value (← (do eqGuard BinOp.lss 3 (Operand.tmp 49) (Operand.const (Value.int IntKind.i64 0)) x49 (Value.int IntKind.i64 0); binOp BinOp.lss 3 x49 (Value.int IntKind.i64 0))))) fun x50 => ∀ w', C w' → K Exit.normal (up (up (up (up (up (up (up (up (up (up (up ρ 40 (ρ 4)) 41 (ρ 0)) 42 (ρ 12)) 43 x43) 44 x44) 45 (ρ 0)) 46 (ρ 1)) 47 x47) 48 x48) 49 x49) 50 x50) w'
theorem slices_symMergeCmpFunc_group_asked_R8_quiet {D : List Deferred} (C : World → Prop) {K : Exit → Sl → World → Prop} {ρ : Sl} {w : World} (hC : C { w with drawn := w.drawn + 1 }) (h : slices_symMergeCmpFunc_group_asked_R8_Q C K ρ) : W ⟨none, D⟩ Tryd.prog 220 slices_symMergeCmpFunc_group_asked_R8 K ρ w := by
  have e : slices_symMergeCmpFunc_group_asked_R8 = .region (idOf slices_symMergeCmpFunc_group_asked_R8) slices_symMergeCmpFunc_group_asked_R8_ops true := by kernel_rfl
  have q : sxq Tryd.prog C slices_symMergeCmpFunc_group_asked_R8_ops (fun ρ' => ∀ w', C w' → K .normal ρ' w') slices_symMergeCmpFunc_group_asked_R8_ops.toList ρ = slices_symMergeCmpFunc_group_asked_R8_Q C K ρ := by kernel_rfl
  rw [e]
  exact W_quiet C (by kernel_rfl) (by kernel_rfl) (by kernel_rfl) hC (Eq.mpr q h)
noncomputable def slices_symMergeCmpFunc_group_asked_R9_F (z : At) (K : Exit → Sl → World → Prop) (ρ : Sl) (w : World) : Prop :=
  CondK (ρ 50) (BK Tryd.prog .add 3 (.tmp 51) (.const (Value.int .i64 1)) (ρ 12) (Value.int .i64 1) w fun x52 w => K .normal (up (up (up ρ 51 (ρ 12)) 52 x52) 10 x52) w) (K .normal (up (up ρ 53 (ρ 12)) 11 (ρ 12)) w)
theorem slices_symMergeCmpFunc_group_asked_R9_eq (z : At) (K : Exit → Sl → World → Prop) (ρ : Sl) (w : World) : sx z Tryd.prog 220 slices_symMergeCmpFunc_group_asked_R9 K ρ w = slices_symMergeCmpFunc_group_asked_R9_F z K ρ w := by kernel_rfl
noncomputable def slices_symMergeCmpFunc_group_asked_L10_F (z : At) (K : Exit → Sl → World → Prop) (ρ : Sl) (w : World) : Prop :=
  BK Tryd.prog .sub 3 (.tmp 56) (.const (Value.int .i64 1)) (ρ 10) (Value.int .i64 1) w fun x57 w => BK Tryd.prog .lss 3 (.tmp 55) (.tmp 57) (ρ 13) x57 w fun x58 w => CondK x58 (W z Tryd.prog 220 slices_symMergeCmpFunc_group_asked_R19 (blkK 3 (seqK (sx z Tryd.prog 220 slices_symMergeCmpFunc_group_asked_R20 K) K)) (up (up (up (up ρ 55 (ρ 13)) 56 (ρ 10)) 57 x57) 58 x58) w) (K (.exit 2) (up (up (up (up ρ 55 (ρ 13)) 56 (ρ 10)) 57 x57) 58 x58) w)
theorem slices_symMergeCmpFunc_group_asked_L10_eq (z : At) (K : Exit → Sl → World → Prop) (ρ : Sl) (w : World) : sx z Tryd.prog 220 slices_symMergeCmpFunc_group_asked_L10 K ρ w = slices_symMergeCmpFunc_group_asked_L10_F z K ρ w := by kernel_rfl
theorem slices_symMergeCmpFunc_group_asked_L10_ok : dstOk 220 slices_symMergeCmpFunc_group_asked_L10 = true := by kernel_rfl
noncomputable def slices_symMergeCmpFunc_group_asked_R11_F (z : At) (K : Exit → Sl → World → Prop) (ρ : Sl) (w : World) : Prop :=
  K .ret ρ w
theorem slices_symMergeCmpFunc_group_asked_R11_eq (z : At) (K : Exit → Sl → World → Prop) (ρ : Sl) (w : World) : sx z Tryd.prog 220 slices_symMergeCmpFunc_group_asked_R11 K ρ w = slices_symMergeCmpFunc_group_asked_R11_F z K ρ w := by kernel_rfl
noncomputable def slices_symMergeCmpFunc_group_asked_R13_ops : Array Oper := opsOf slices_symMergeCmpFunc_group_asked_R13
def slices_symMergeCmpFunc_group_asked_R13_Q (C : World → Prop) (K : Exit → Sl → World → Prop) (ρ : Sl) : Prop :=
  QK Tryd.prog C (do pure (Next.value (← Instr.indexAt 159 (ρ 0) (ρ 2)))) fun x95 => QK Tryd.prog C (do pure (Next.value (← Instr.loadAt 161 x95))) fun x96 => QK Tryd.prog C (do pure (Next.value (← Instr.indexAt 159 (ρ 0) (ρ 16)))) fun x99 => QK Tryd.prog C (do pure (Next.value (← Instr.loadAt 161 x99))) fun x100 => QK Tryd.prog C (do let d ← Deferred.ofValue (ρ 4) [x96, x100].toArray; invoke d.target d.args) fun x101 => QK Tryd.prog C (do pure (Next.value (← (do eqGuard BinOp.lss 3 (Operand.tmp 101) (Operand.const (Value.int IntKind.i64 0)) x101 (Value.int IntKind.i64 0); binOp BinOp.lss 3 x101 (Value.int IntKind.i64 0))))) fun x102 => QK Tryd.prog C (do pure (Next.value (← Op.unary UnOp.not x102))) fun x103 => ∀ w', C w' → K Exit.normal (up (up (up (up (up (up (up (up (up (up (up (up ρ 92 (ρ 4)) 93 (ρ 0)) 94 (ρ 2)) 95 x95) 96 x96) 97 (ρ 0)) 98 (ρ 16)) 99 x99) 100 x100) 101 x101) 102 x102) 103 x103) w'
theorem slices_symMergeCmpFunc_group_asked_R13_quiet {D : List Deferred} (C : World → Prop) {K : Exit → Sl → World → Prop} {ρ : Sl} {w : World} (hC : C { w with drawn := w.drawn + 1 }) (h : slices_symMergeCmpFunc_group_asked_R13_Q C K ρ) : W ⟨none, D⟩ Tryd.prog 220 slices_symMergeCmpFunc_group_asked_R13 K ρ w := by
  have e : slices_symMergeCmpFunc_group_asked_R13 = .region (idOf slices_symMergeCmpFunc_group_asked_R13) slices_symMergeCmpFunc_group_asked_R13_ops true := by kernel_rfl
  have q : sxq Tryd.prog C slices_symMergeCmpFunc_group_asked_R13_ops (fun ρ' => ∀ w', C w' → K .normal ρ' w') slices_symMergeCmpFunc_group_asked_R13_ops.toList ρ = slices_symMergeCmpFunc_group_asked_R13_Q C K ρ := by kernel_rfl
  rw [e]
  exact W_quiet C (by kernel_rfl) (by kernel_rfl) (by kernel_rfl) hC (Eq.mpr q h)
noncomputable def slices_symMergeCmpFunc_group_asked_R14_F (z : At) (K : Exit → Sl → World → Prop) (ρ : Sl) (w : World) : Prop :=
  CondK (ρ 103) (BK Tryd.prog .add 3 (.tmp 104) (.const (Value.int .i64 1)) (ρ 16) (Value.int .i64 1) w fun x105 w => K .normal (up (up (up ρ 104 (ρ 16)) 105 x105) 14 x105) w) (K .normal (up (up ρ 106 (ρ 16)) 15 (ρ 16)) w)
theorem slices_symMergeCmpFunc_group_asked_R14_eq (z : At) (K : Exit → Sl → World → Prop) (ρ : Sl) (w : World) : sx z Tryd.prog 220 slices_symMergeCmpFunc_group_asked_R14 K ρ w = slices_symMergeCmpFunc_group_asked_R14_F z K ρ w := by kernel_rfl
noncomputable def slices_symMergeCmpFunc_group_asked_L15_F (z : At) (K : Exit → Sl → World → Prop) (ρ : Sl) (w : World) : Prop :=
  BK Tryd.prog .gtr 3 (.tmp 108) (.tmp 109) (ρ 17) (ρ 14) w fun x110 w => CondK x110 (W z Tryd.prog 220 slices_symMergeCmpFunc_group_asked_R21 (blkK 7 (seqK (sx z Tryd.prog 220 slices_symMergeCmpFunc_group_asked_R22 K) K)) (up (up (up ρ 108 (ρ 17)) 109 (ρ 14)) 110 x110) w) (K (.exit 6) (up (up (up ρ 108 (ρ 17)) 109 (ρ 14)) 110 x110) w)
theorem slices_symMergeCmpFunc_group_asked_L15_eq (z : At) (K : Exit → Sl → World → Prop) (ρ : Sl) (w : World) : sx z Tryd.prog 220 slices_symMergeCmpFunc_group_asked_L15 K ρ w = slices_symMergeCmpFunc_group_asked_L15_F z K ρ w := by kernel_rfl
theorem slices_symMergeCmpFunc_group_asked_L15_ok : dstOk 220 slices_symMergeCmpFunc_group_asked_L15 = true := by kernel_rfl
noncomputable def slices_symMergeCmpFunc_group_asked_R16_F (z : At) (K : Exit → Sl → World → Prop) (ρ : Sl) (w : World) : Prop :=
  K .ret ρ w
theorem slices_symMergeCmpFunc_group_asked_R16_eq (z : At) (K : Exit → Sl → World → Prop) (ρ : Sl) (w : World) : sx z Tryd.prog 220 slices_symMergeCmpFunc_group_asked_R16 K ρ w = slices_symMergeCmpFunc_group_asked_R16_F z K ρ w := by kernel_rfl
noncomputable def slices_symMergeCmpFunc_group_asked_L17_F (z : At) (K : Exit → Sl → World → Prop) (ρ : Sl) (w : World) : Prop :=
  BK Tryd.prog .lss 3 (.tmp 149) (.tmp 150) (ρ 20) (ρ 21) w fun x151 w => CondK x151 (BK Tryd.prog .add 3 (.tmp 152) (.tmp 153) (ρ 20) (ρ 21) w fun x154 w => VK Tryd.prog (convert 3 138 x154) w fun x155 w => BK Tryd.prog .shr 138 (.tmp 155) (.const (Value.int .u64 1)) x155 (Value.int .u64 1) w fun x156 w => VK Tryd.prog (convert 138 3 x156) w fun x157 w => W z Tryd.prog 220 slices_symMergeCmpFunc_group_asked_R23 (seqK (sx z Tryd.prog 220 slices_symMergeCmpFunc_group_asked_R24 (blkK 9 K)) (blkK 9 K)) (up (up (up (up (up (up (up (up (up (up ρ 149 (ρ 20)) 150 (ρ 21)) 151 x151) 152 (ρ 20)) 153 (ρ 21)) 154 x154) 155 x155) 156 x156) 157 x157) 23 x157) w) (K (.exit 8) (up (up (up ρ 149 (ρ 20)) 150 (ρ 21)) 151 x151) w)
theorem slices_symMergeCmpFunc_group_asked_L17_eq (z : At) (K : Exit → Sl → World → Prop) (ρ : Sl) (w : World) : sx z Tryd.prog 220 slices_symMergeCmpFunc_group_asked_L17 K ρ w = slices_symMergeCmpFunc_group_asked_L17_F z K ρ w := by kernel_rfl
theorem slices_symMergeCmpFunc_group_asked_L17_ok : dstOk 220 slices_symMergeCmpFunc_group_asked_L17 = true := by kernel_rfl
noncomputable def slices_symMergeCmpFunc_group_asked_R18_F (z : At) (K : Exit → Sl → World → Prop) (ρ : Sl) (w : World) : Prop :=
  BK Tryd.prog .sub 3 (.tmp 175) (.tmp 176) (ρ 19) (ρ 20) w fun x177 w => BK Tryd.prog .lss 3 (.tmp 178) (.tmp 179) (ρ 20) (ρ 2) w fun x180 w => MG Tryd.prog x180 true (ρ 2) w fun x182 w => MG Tryd.prog x180 true x177 w fun x183 w => BG Tryd.prog x180 true .lss 3 (.tmp 182) (.tmp 183) x182 x183 w fun x184 w => PK Tryd.prog x180 x184 (Value.bool false) w fun x185 w => CondK x185 (CK Tryd.prog (Value.func (Fn.func 125) #[] #[]) [(ρ 0), (ρ 20), (ρ 2), x177, (ρ 4)] w fun x191 w => sx z Tryd.prog 220 slices_symMergeCmpFunc_group_asked_R25 K (up (up (up (up (up (up (up (up (up (up (up (up (up (up (up (up (up (up ρ 175 (ρ 19)) 176 (ρ 20)) 177 x177) 24 x177) 178 (ρ 20)) 179 (ρ 2)) 180 x180) 181 x180) 182 x182) 183 x183) 184 x184) 185 x185) 186 (ρ 0)) 187 (ρ 20)) 188 (ρ 2)) 189 x177) 190 (ρ 4)) 191 x191) w) (sx z Tryd.prog 220 slices_symMergeCmpFunc_group_asked_R25 K (up (up (up (up (up (up (up (up (up (up (up (up ρ 175 (ρ 19)) 176 (ρ 20)) 177 x177) 24 x177) 178 (ρ 20)) 179 (ρ 2)) 180 x180) 181 x180) 182 x182) 183 x183) 184 x184) 185 x185) w)
theorem slices_symMergeCmpFunc_group_asked_R18_eq (z : At) (K : Exit → Sl → World → Prop) (ρ : Sl) (w : World) : sx z Tryd.prog 220 slices_symMergeCmpFunc_group_asked_R18 K ρ w = slices_symMergeCmpFunc_group_asked_R18_F z K ρ w := by kernel_rfl
noncomputable def slices_symMergeCmpFunc_group_asked_R19_ops : Array Oper := opsOf slices_symMergeCmpFunc_group_asked_R19
def slices_symMergeCmpFunc_group_asked_R19_H (S : World → Prop) (K : Exit → Sl → World → Prop) (ρ : Sl) (w : World) : Prop :=
  HK Tryd.prog S (do pure (Next.value (← (do eqGuard BinOp.add 3 (Operand.tmp 64) (Operand.const (Value.int IntKind.i64 1)) (ρ 13) (Value.int IntKind.i64 1); binOp BinOp.add 3 (ρ 13) (Value.int IntKind.i64 1))))) fun x65 => HK Tryd.prog S (do pure (Next.value (← (do eqGuard BinOp.add 3 (Operand.tmp 67) (Operand.const (Value.int IntKind.i64 1)) (ρ 13) (Value.int IntKind.i64 1); binOp BinOp.add 3 (ρ 13) (Value.int IntKind.i64 1))))) fun x68 => HK Tryd.prog S (do pure (Next.value (← Instr.indexAt 159 (ρ 0) x68))) fun x69 => HK Tryd.prog S (do pure (Next.value (← Instr.indexAt 159 (ρ 0) (ρ 13)))) fun x73 => (VK Tryd.prog (Instr.loadAt 161 x69) w fun x70 w => S w ∧ (VK Tryd.prog (Instr.loadAt 161 x73) w fun x74 w => S w ∧ (HK Tryd.prog S (do pure (Next.value (← Instr.indexAt 159 (ρ 0) (ρ 13)))) fun x75 => UK Tryd.prog (Instr.storeAt 161 x75 x70) w fun _ w => S w ∧ (HK Tryd.prog S (do pure (Next.value (← Instr.indexAt 159 (ρ 0) x65))) fun x76 => UK Tryd.prog (Instr.storeAt 161 x76 x74) w fun _ w => S w ∧ (K Exit.normal (up (up (up (up (up (up (up (up (up (up (up (up (up (up (up (up ρ 61 (ρ 0)) 62 (ρ 13)) 63 (ρ 0)) 64 (ρ 13)) 65 x65) 66 (ρ 0)) 67 (ρ 13)) 68 x68) 69 x69) 71 (ρ 0)) 72 (ρ 13)) 73 x73) 70 x70) 74 x74) 75 x75) 76 x76) w))))) ∧ (VK Tryd.prog (Instr.loadAt 161 x73) w fun x74_1 w => S w ∧ (VK Tryd.prog (Instr.loadAt 161 x69) w fun x70_1 w => S w ∧ (HK Tryd.prog S (do pure (Next.value (← Instr.indexAt 159 (ρ 0) (ρ 13)))) fun x75_1 => UK Tryd.prog (Instr.storeAt 161 x75_1 x70_1) w fun _ w => S w ∧ (HK Tryd.prog S (do pure (Next.value (← Instr.indexAt 159 (ρ 0) x65))) fun x76_1 => UK Tryd.prog (Instr.storeAt 161 x76_1 x74_1) w fun _ w => S w ∧ (K Exit.normal (up (up (up (up (up (up (up (up (up (up (up (up (up (up (up (up ρ 61 (ρ 0)) 62 (ρ 13)) 63 (ρ 0)) 64 (ρ 13)) 65 x65) 66 (ρ 0)) 67 (ρ 13)) 68 x68) 69 x69) 71 (ρ 0)) 72 (ρ 13)) 73 x73) 74 x74_1) 70 x70_1) 75 x75_1) 76 x76_1) w)))))
theorem slices_symMergeCmpFunc_group_asked_R19_held {D : List Deferred} (S : World → Prop) {K : Exit → Sl → World → Prop} {ρ : Sl} {w : World} (hS : S { w with drawn := w.drawn + 1 }) (h : slices_symMergeCmpFunc_group_asked_R19_H S K ρ { w with drawn := w.drawn + 1 }) : W ⟨none, D⟩ Tryd.prog 220 slices_symMergeCmpFunc_group_asked_R19 K ρ w := by
  have e : slices_symMergeCmpFunc_group_asked_R19 = .region (idOf slices_symMergeCmpFunc_group_asked_R19) slices_symMergeCmpFunc_group_asked_R19_ops true := by kernel_rfl
  have q : sxd Tryd.prog S slices_symMergeCmpFunc_group_asked_R19_ops (K .normal) (Pd.take 0 (Pd.take 1 (Pd.take 2 (Pd.take 3 (Pd.take 4 (Pd.take 5 (Pd.take 6 (Pd.take 7 (Pd.take 8 (Pd.take 10 (Pd.take 11 (Pd.take 12 (Pd.two false false 9 13 (Pd.only false 13 (Pd.take 14 (Pd.only false 15 (Pd.take 16 (Pd.only false 17 Pd.done))))) (Pd.only false 9 (Pd.take 14 (Pd.only false 15 (Pd.take 16 (Pd.only false 17 Pd.done)))))))))))))))))) ρ { w with drawn := w.drawn + 1 } = slices_symMergeCmpFunc_group_asked_R19_H S K ρ { w with drawn := w.drawn + 1 } := by kernel_rfl
  rw [e]
  exact W_pland S (Pd.take 0 (Pd.take 1 (Pd.take 2 (Pd.take 3 (Pd.take 4 (Pd.take 5 (Pd.take 6 (Pd.take 7 (Pd.take 8 (Pd.take 10 (Pd.take 11 (Pd.take 12 (Pd.two false false 9 13 (Pd.only false 13 (Pd.take 14 (Pd.only false 15 (Pd.take 16 (Pd.only false 17 Pd.done))))) (Pd.only false 9 (Pd.take 14 (Pd.only false 15 (Pd.take 16 (Pd.only false 17 Pd.done)))))))))))))))))) (by kernel_rfl) (by kernel_rfl) (by kernel_rfl) (by kernel_rfl) hS (Eq.mpr q h)
noncomputable def slices_symMergeCmpFunc_group_asked_R20_F (z : At) (K : Exit → Sl → World → Prop) (ρ : Sl) (w : World) : Prop :=
  BK Tryd.prog .add 3 (.tmp 59) (.const (Value.int .i64 1)) (ρ 13) (Value.int .i64 1) w fun x60 w => K .normal (up (up (up ρ 59 (ρ 13)) 60 x60) 13 x60) w
theorem slices_symMergeCmpFunc_group_asked_R20_eq (z : At) (K : Exit → Sl → World → Prop) (ρ : Sl) (w : World) : sx z Tryd.prog 220 slices_symMergeCmpFunc_group_asked_R20 K ρ w = slices_symMergeCmpFunc_group_asked_R20_F z K ρ w := by kernel_rfl
noncomputable def slices_symMergeCmpFunc_group_asked_R21_ops : Array Oper := opsOf slices_symMergeCmpFunc_group_asked_R21
def slices_symMergeCmpFunc_group_asked_R21_H (S : World → Prop) (K : Exit → Sl → World → Prop) (ρ : Sl) (w : World) : Prop :=
  HK Tryd.prog S (do pure (Next.value (← (do eqGuard BinOp.sub 3 (Operand.tmp 116) (Operand.const (Value.int IntKind.i64 1)) (ρ 17) (Value.int IntKind.i64 1); binOp BinOp.sub 3 (ρ 17) (Value.int IntKind.i64 1))))) fun x117 => HK Tryd.prog S (do pure (Next.value (← (do eqGuard BinOp.sub 3 (Operand.tmp 119) (Operand.const (Value.int IntKind.i64 1)) (ρ 17) (Value.int IntKind.i64 1); binOp BinOp.sub 3 (ρ 17) (Value.int IntKind.i64 1))))) fun x120 => HK Tryd.prog S (do pure (Next.value (← Instr.indexAt 159 (ρ 0) x120))) fun x121 => HK Tryd.prog S (do pure (Next.value (← Instr.indexAt 159 (ρ 0) (ρ 17)))) fun x125 => (VK Tryd.prog (Instr.loadAt 161 x121) w fun x122 w => S w ∧ (VK Tryd.prog (Instr.loadAt 161 x125) w fun x126 w => S w ∧ (HK Tryd.prog S (do pure (Next.value (← Instr.indexAt 159 (ρ 0) (ρ 17)))) fun x127 => UK Tryd.prog (Instr.storeAt 161 x127 x122) w fun _ w => S w ∧ (HK Tryd.prog S (do pure (Next.value (← Instr.indexAt 159 (ρ 0) x117))) fun x128 => UK Tryd.prog (Instr.storeAt 161 x128 x126) w fun _ w => S w ∧ (K Exit.normal (up (up (up (up (up (up (up (up (up (up (up (up (up (up (up (up ρ 113 (ρ 0)) 114 (ρ 17)) 115 (ρ 0)) 116 (ρ 17)) 117 x117) 118 (ρ 0)) 119 (ρ 17)) 120 x120) 121 x121) 123 (ρ 0)) 124 (ρ 17)) 125 x125) 122 x122) 126 x126) 127 x127) 128 x128) w))))) ∧ (VK Tryd.prog (Instr.loadAt 161 x125) w fun x126_1 w => S w ∧ (VK Tryd.prog (Instr.loadAt 161 x121) w fun x122_1 w => S w ∧ (HK Tryd.prog S (do pure (Next.value (← Instr.indexAt 159 (ρ 0) (ρ 17)))) fun x127_1 => UK Tryd.prog (Instr.storeAt 161 x127_1 x122_1) w fun _ w => S w ∧ (HK Tryd.prog S (do pure (Next.value (← Instr.indexAt 159 (ρ 0) x117))) fun x128_1 => UK Tryd.prog (Instr.storeAt 161 x128_1 x126_1) w fun _ w => S w ∧ (K Exit.normal (up (up (up (up (up (up (up (up (up (up (up (up (up (up (up (up ρ 113 (ρ 0)) 114 (ρ 17)) 115 (ρ 0)) 116 (ρ 17)) 117 x117) 118 (ρ 0)) 119 (ρ 17)) 120 x120) 121 x121) 123 (ρ 0)) 124 (ρ 17)) 125 x125) 126 x126_1) 122 x122_1) 127 x127_1) 128 x128_1) w)))))
theorem slices_symMergeCmpFunc_group_asked_R21_held {D : List Deferred} (S : World → Prop) {K : Exit → Sl → World → Prop} {ρ : Sl} {w : World} (hS : S { w with drawn := w.drawn + 1 }) (h : slices_symMergeCmpFunc_group_asked_R21_H S K ρ { w with drawn := w.drawn + 1 }) : W ⟨none, D⟩ Tryd.prog 220 slices_symMergeCmpFunc_group_asked_R21 K ρ w := by
  have e : slices_symMergeCmpFunc_group_asked_R21 = .region (idOf slices_symMergeCmpFunc_group_asked_R21) slices_symMergeCmpFunc_group_asked_R21_ops true := by kernel_rfl
  have q : sxd Tryd.prog S slices_symMergeCmpFunc_group_asked_R21_ops (K .normal) (Pd.take 0 (Pd.take 1 (Pd.take 2 (Pd.take 3 (Pd.take 4 (Pd.take 5 (Pd.take 6 (Pd.take 7 (Pd.take 8 (Pd.take 10 (Pd.take 11 (Pd.take 12 (Pd.two false false 9 13 (Pd.only false 13 (Pd.take 14 (Pd.only false 15 (Pd.take 16 (Pd.only false 17 Pd.done))))) (Pd.only false 9 (Pd.take 14 (Pd.only false 15 (Pd.take 16 (Pd.only false 17 Pd.done)))))))))))))))))) ρ { w with drawn := w.drawn + 1 } = slices_symMergeCmpFunc_group_asked_R21_H S K ρ { w with drawn := w.drawn + 1 } := by kernel_rfl
  rw [e]
  exact W_pland S (Pd.take 0 (Pd.take 1 (Pd.take 2 (Pd.take 3 (Pd.take 4 (Pd.take 5 (Pd.take 6 (Pd.take 7 (Pd.take 8 (Pd.take 10 (Pd.take 11 (Pd.take 12 (Pd.two false false 9 13 (Pd.only false 13 (Pd.take 14 (Pd.only false 15 (Pd.take 16 (Pd.only false 17 Pd.done))))) (Pd.only false 9 (Pd.take 14 (Pd.only false 15 (Pd.take 16 (Pd.only false 17 Pd.done)))))))))))))))))) (by kernel_rfl) (by kernel_rfl) (by kernel_rfl) (by kernel_rfl) hS (Eq.mpr q h)
noncomputable def slices_symMergeCmpFunc_group_asked_R22_F (z : At) (K : Exit → Sl → World → Prop) (ρ : Sl) (w : World) : Prop :=
  BK Tryd.prog .sub 3 (.tmp 111) (.const (Value.int .i64 1)) (ρ 17) (Value.int .i64 1) w fun x112 w => K .normal (up (up (up ρ 111 (ρ 17)) 112 x112) 17 x112) w
theorem slices_symMergeCmpFunc_group_asked_R22_eq (z : At) (K : Exit → Sl → World → Prop) (ρ : Sl) (w : World) : sx z Tryd.prog 220 slices_symMergeCmpFunc_group_asked_R22 K ρ w = slices_symMergeCmpFunc_group_asked_R22_F z K ρ w := by kernel_rfl
noncomputable def slices_symMergeCmpFunc_group_asked_R23_ops : Array Oper := opsOf slices_symMergeCmpFunc_group_asked_R23
def slices_symMergeCmpFunc_group_asked_R23_Q (C : World → Prop) (K : Exit → Sl → World → Prop) (ρ : Sl) : Prop :=
  QK Tryd.prog C (do pure (Next.value (← (do eqGuard BinOp.sub 3 (Operand.tmp 160) (Operand.tmp 161) (ρ 22) (ρ 23); binOp BinOp.sub 3 (ρ 22) (ρ 23))))) fun x162 => QK Tryd.prog C (do pure (Next.value (← Instr.indexAt 159 (ρ 0) x162))) fun x163 => QK Tryd.prog C (do pure (Next.value (← Instr.loadAt 161 x163))) fun x164 => QK Tryd.prog C (do pure (Next.value (← Instr.indexAt 159 (ρ 0) (ρ 23)))) fun x167 => QK Tryd.prog C (do pure (Next.value (← Instr.loadAt 161 x167))) fun x168 => QK Tryd.prog C (do let d ← Deferred.ofValue (ρ 4) [x164, x168].toArray; invoke d.target d.args) fun x169 => QK Tryd.prog C (do pure (Next.value (← (do eqGuard BinOp.lss 3 (Operand.tmp 169) (Operand.const (Value.int IntKind.i64 0)) x169 (Value.int IntKind.i64 0); binOp BinOp.lss 3 x169 (Value.int IntKind.i64 0))))) fun x170 => QK Tryd.prog C (do pure (Next.value (← Op.unary UnOp.not x170))) fun x171 => ∀ w', C w' → K Exit.normal (up (up (up (up (up (up (up (up (up (up (up (up (up (up ρ 158 (ρ 4)) 159 (ρ 0)) 160 (ρ 22)) 161 (ρ 23)) 162 x162) 163 x163) 164 x164) 165 (ρ 0)) 166 (ρ 23)) 167 x167) 168 x168) 169 x169) 170 x170) 171 x171) w'
theorem slices_symMergeCmpFunc_group_asked_R23_quiet {D : List Deferred} (C : World → Prop) {K : Exit → Sl → World → Prop} {ρ : Sl} {w : World} (hC : C { w with drawn := w.drawn + 1 }) (h : slices_symMergeCmpFunc_group_asked_R23_Q C K ρ) : W ⟨none, D⟩ Tryd.prog 220 slices_symMergeCmpFunc_group_asked_R23 K ρ w := by
  have e : slices_symMergeCmpFunc_group_asked_R23 = .region (idOf slices_symMergeCmpFunc_group_asked_R23) slices_symMergeCmpFunc_group_asked_R23_ops true := by kernel_rfl
  have q : sxq Tryd.prog C slices_symMergeCmpFunc_group_asked_R23_ops (fun ρ' => ∀ w', C w' → K .normal ρ' w') slices_symMergeCmpFunc_group_asked_R23_ops.toList ρ = slices_symMergeCmpFunc_group_asked_R23_Q C K ρ := by kernel_rfl
  rw [e]
  exact W_quiet C (by kernel_rfl) (by kernel_rfl) (by kernel_rfl) hC (Eq.mpr q h)
noncomputable def slices_symMergeCmpFunc_group_asked_R24_F (z : At) (K : Exit → Sl → World → Prop) (ρ : Sl) (w : World) : Prop :=
  CondK (ρ 171) (BK Tryd.prog .add 3 (.tmp 172) (.const (Value.int .i64 1)) (ρ 23) (Value.int .i64 1) w fun x173 w => K .normal (up (up (up ρ 172 (ρ 23)) 173 x173) 20 x173) w) (K .normal (up (up ρ 174 (ρ 23)) 21 (ρ 23)) w)
theorem slices_symMergeCmpFunc_group_asked_R24_eq (z : At) (K : Exit → Sl → World → Prop) (ρ : Sl) (w : World) : sx z Tryd.prog 220 slices_symMergeCmpFunc_group_asked_R24 K ρ w = slices_symMergeCmpFunc_group_asked_R24_F z K ρ w := by kernel_rfl
noncomputable def slices_symMergeCmpFunc_group_asked_R25_F (z : At) (K : Exit → Sl → World → Prop) (ρ : Sl) (w : World) : Prop :=
  BK Tryd.prog .lss 3 (.tmp 192) (.tmp 193) (ρ 1) (ρ 20) w fun x194 w => MG Tryd.prog x194 true (ρ 20) w fun x196 w => MG Tryd.prog x194 true (ρ 18) w fun x197 w => BG Tryd.prog x194 true .lss 3 (.tmp 196) (.tmp 197) x196 x197 w fun x198 w => PK Tryd.prog x194 x198 (Value.bool false) w fun x199 w => CondK x199 (CK Tryd.prog (Value.func (Fn.func 124) #[] #[]) [(ρ 0), (ρ 1), (ρ 20), (ρ 18), (ρ 4)] w fun x205 w => sx z Tryd.prog 220 slices_symMergeCmpFunc_group_asked_R26 K (up (up (up (up (up (up (up (up (up (up (up (up (up (up ρ 192 (ρ 1)) 193 (ρ 20)) 194 x194) 195 x194) 196 x196) 197 x197) 198 x198) 199 x199) 200 (ρ 0)) 201 (ρ 1)) 202 (ρ 20)) 203 (ρ 18)) 204 (ρ 4)) 205 x205) w) (sx z Tryd.prog 220 slices_symMergeCmpFunc_group_asked_R26 K (up (up (up (up (up (up (up (up ρ 192 (ρ 1)) 193 (ρ 20)) 194 x194) 195 x194) 196 x196) 197 x197) 198 x198) 199 x199) w)
theorem slices_symMergeCmpFunc_group_asked_R25_eq (z : At) (K : Exit → Sl → World → Prop) (ρ : Sl) (w : World) : sx z Tryd.prog 220 slices_symMergeCmpFunc_group_asked_R25 K ρ w = slices_symMergeCmpFunc_group_asked_R25_F z K ρ w := by kernel_rfl
noncomputable def slices_symMergeCmpFunc_group_asked_R26_F (z : At) (K : Exit → Sl → World → Prop) (ρ : Sl) (w : World) : Prop :=
  BK Tryd.prog .lss 3 (.tmp 206) (.tmp 207) (ρ 18) (ρ 24) w fun x208 w => MG Tryd.prog x208 true (ρ 24) w fun x210 w => MG Tryd.prog x208 true (ρ 3) w fun x211 w => BG Tryd.prog x208 true .lss 3 (.tmp 210) (.tmp 211) x210 x211 w fun x212 w => PK Tryd.prog x208 x212 (Value.bool false) w fun x213 w => CondK x213 (CK Tryd.prog (Value.func (Fn.func 124) #[] #[]) [(ρ 0), (ρ 18), (ρ 24), (ρ 3), (ρ 4)] w fun x219 w => K .normal (up (up (up (up (up (up (up (up (up (up (up (up (up (up ρ 206 (ρ 18)) 207 (ρ 24)) 208 x208) 209 x208) 210 x210) 211 x211) 212 x212) 213 x213) 214 (ρ 0)) 215 (ρ 18)) 216 (ρ 24)) 217 (ρ 3)) 218 (ρ 4)) 219 x219) w) (K .normal (up (up (up (up (up (up (up (up ρ 206 (ρ 18)) 207 (ρ 24)) 208 x208) 209 x208) 210 x210) 211 x211) 212 x212) 213 x213) w)
theorem slices_symMergeCmpFunc_group_asked_R26_eq (z : At) (K : Exit → Sl → World → Prop) (ρ : Sl) (w : World) : sx z Tryd.prog 220 slices_symMergeCmpFunc_group_asked_R26 K ρ w = slices_symMergeCmpFunc_group_asked_R26_F z K ρ w := by kernel_rfl
noncomputable def slices_symMergeCmpFunc_group_asked_F (a0 a1 a2 a3 a4 : Value) (w : World) (R : Value → World → Prop) : Prop :=
  BK Tryd.prog .sub 3 (.tmp 25) (.tmp 26) a2 a1 w fun x27 w => BK Tryd.prog .eql 3 (.tmp 27) (.const (Value.int .i64 1)) x27 (Value.int .i64 1) w fun x28 w => CondK x28 (W fn_ Tryd.prog 220 (Code.loop slices_symMergeCmpFunc_group_asked_L0) (blkK 0 (seqK (sx fn_ Tryd.prog 220 slices_symMergeCmpFunc_group_asked_R1 (seqK (sx fn_ Tryd.prog 220 slices_symMergeCmpFunc_group_asked_R2 (retK Tryd.prog [] R)) (retK Tryd.prog [] R))) (seqK (sx fn_ Tryd.prog 220 slices_symMergeCmpFunc_group_asked_R2 (retK Tryd.prog [] R)) (retK Tryd.prog [] R)))) (up (up (up (up (up (up (up (up (rho0 [a0, a1, a2, a3, a4]) 25 a2) 26 a1) 27 x27) 28 x28) 29 a2) 10 a2) 30 a3) 11 a3) w) (BK Tryd.prog .sub 3 (.tmp 77) (.tmp 78) a3 a2 w fun x79 w => BK Tryd.prog .eql 3 (.tmp 79) (.const (Value.int .i64 1)) x79 (Value.int .i64 1) w fun x80 w => CondK x80 (W fn_ Tryd.prog 220 (Code.loop slices_symMergeCmpFunc_group_asked_L3) (blkK 4 (seqK (sx fn_ Tryd.prog 220 slices_symMergeCmpFunc_group_asked_R4 (seqK (sx fn_ Tryd.prog 220 slices_symMergeCmpFunc_group_asked_R5 (retK Tryd.prog [] R)) (retK Tryd.prog [] R))) (seqK (sx fn_ Tryd.prog 220 slices_symMergeCmpFunc_group_asked_R5 (retK Tryd.prog [] R)) (retK Tryd.prog [] R)))) (up (up (up (up (up (up (up (up (up (up (up (up (rho0 [a0, a1, a2, a3, a4]) 25 a2) 26 a1) 27 x27) 28 x28) 77 a3) 78 a2) 79 x79) 80 x80) 81 a1) 14 a1) 82 a2) 15 a2) w) (BK Tryd.prog .add 3 (.tmp 129) (.tmp 130) a1 a3 w fun x131 w => VK Tryd.prog (convert 3 138 x131) w fun x132 w => BK Tryd.prog .shr 138 (.tmp 132) (.const (Value.int .u64 1)) x132 (Value.int .u64 1) w fun x133 w => VK Tryd.prog (convert 138 3 x133) w fun x134 w => BK Tryd.prog .add 3 (.tmp 135) (.tmp 136) x134 a2 w fun x137 w => BK Tryd.prog .gtr 3 (.tmp 138) (.tmp 139) a2 x134 w fun x140 w => sx fn_ Tryd.prog 220 slices_symMergeCmpFunc_group_asked_R6 (seqK (sx fn_ Tryd.prog 220 slices_symMergeCmpFunc_group_asked_R7 (retK Tryd.prog [] R)) (retK Tryd.prog [] R)) (up (up (up (up (up (up (up (up (up (up (up (up (up (up (up (up (up (up (up (up (up (up (up (up (rho0 [a0, a1, a2, a3, a4]) 25 a2) 26 a1) 27 x27) 28 x28) 77 a3) 78 a2) 79 x79) 80 x80) 129 a1) 130 a3) 131 x131) 132 x132) 133 x133) 134 x134) 18 x134) 135 x134) 136 a2) 137 x137) 19 x137) 20 (Value.int .i64 0)) 21 (Value.int .i64 0)) 138 a2) 139 x134) 140 x140) w))
theorem slices_symMergeCmpFunc_group_asked_eq (a0 a1 a2 a3 a4 : Value) (w : World) (R : Value → World → Prop) : sx fn_ Tryd.prog 220 slices_symMergeCmpFunc_group_asked_b (retK Tryd.prog Tryd.f124.results.toList R) (rho0 [a0, a1, a2, a3, a4]) w = slices_symMergeCmpFunc_group_asked_F a0 a1 a2 a3 a4 w R := by kernel_rfl
theorem slices_symMergeCmpFunc_group_asked_calls {a0 a1 a2 a3 a4 : Value} {w : World} {R : Value → World → Prop} (h : slices_symMergeCmpFunc_group_asked_F a0 a1 a2 a3 a4 w R) : Calls Tryd.prog 124 #[a0, a1, a2, a3, a4] w fun e w' => ∃ v, e = .returned v ∧ R v w' :=
  Go.X.calls_of_sx (n := 220) (c := slices_symMergeCmpFunc_group_asked_b) Tryd.func124 (by kernel_rfl) (by kernel_rfl) (Nat.le_of_ble_eq_true rfl) (by kernel_rfl) (Eq.mpr (slices_symMergeCmpFunc_group_asked_eq a0 a1 a2 a3 a4 w R) h)
noncomputable def slices_rotateCmpFunc_group_asked_b : Code := (Tryd.f125.body).getD .skip
noncomputable def slices_rotateCmpFunc_group_asked_L0 : Code := cAt [1, 1, 0, 0, 0] slices_rotateCmpFunc_group_asked_b
noncomputable def slices_rotateCmpFunc_group_asked_R1 : Code := cAt [1, 1, 1] slices_rotateCmpFunc_group_asked_b
noncomputable def slices_rotateCmpFunc_group_asked_L0_F (z : At) (K : Exit → Sl → World → Prop) (ρ : Sl) (w : World) : Prop :=
  BK Tryd.prog .neq 3 (.tmp 18) (.tmp 19) (ρ 10) (ρ 11) w fun x20 w => CondK x20 (BK Tryd.prog .gtr 3 (.tmp 21) (.tmp 22) (ρ 10) (ρ 11) w fun x23 w => CondK x23 (BK Tryd.prog .sub 3 (.tmp 25) (.tmp 26) (ρ 2) (ρ 10) w fun x27 w => CK Tryd.prog (Value.func (Fn.func 126) #[] #[]) [(ρ 0), x27, (ρ 2), (ρ 11), (ρ 4)] w fun x31 w => BK Tryd.prog .sub 3 (.tmp 32) (.tmp 33) (ρ 10) (ρ 11) w fun x34 w => K .normal (up (up (up (up (up (up (up (up (up (up (up (up (up (up (up (up (up (up ρ 18 (ρ 10)) 19 (ρ 11)) 20 x20) 21 (ρ 10)) 22 (ρ 11)) 23 x23) 24 (ρ 0)) 25 (ρ 2)) 26 (ρ 10)) 27 x27) 28 (ρ 2)) 29 (ρ 11)) 30 (ρ 4)) 31 x31) 32 (ρ 10)) 33 (ρ 11)) 34 x34) 10 x34) w) (BK Tryd.prog .sub 3 (.tmp 36) (.tmp 37) (ρ 2) (ρ 10) w fun x38 w => BK Tryd.prog .add 3 (.tmp 39) (.tmp 40) (ρ 2) (ρ 11) w fun x41 w => BK Tryd.prog .sub 3 (.tmp 41) (.tmp 42) x41 (ρ 10) w fun x43 w => CK Tryd.prog (Value.func (Fn.func 126) #[] #[]) [(ρ 0), x38, x43, (ρ 10), (ρ 4)] w fun x46 w => BK Tryd.prog .sub 3 (.tmp 47) (.tmp 48) (ρ 11) (ρ 10) w fun x49 w => K .normal (up (up (up (up (up (up (up (up (up (up (up (up (up (up (up (up (up (up (up (up (up (up ρ 18 (ρ 10)) 19 (ρ 11)) 20 x20) 21 (ρ 10)) 22 (ρ 11)) 23 x23) 35 (ρ 0)) 36 (ρ 2)) 37 (ρ 10)) 38 x38) 39 (ρ 2)) 40 (ρ 11)) 41 x41) 42 (ρ 10)) 43 x43) 44 (ρ 10)) 45 (ρ 4)) 46 x46) 47 (ρ 11)) 48 (ρ 10)) 49 x49) 11 x49) w)) (K (.exit 0) (up (up (up ρ 18 (ρ 10)) 19 (ρ 11)) 20 x20) w)
theorem slices_rotateCmpFunc_group_asked_L0_eq (z : At) (K : Exit → Sl → World → Prop) (ρ : Sl) (w : World) : sx z Tryd.prog 58 slices_rotateCmpFunc_group_asked_L0 K ρ w = slices_rotateCmpFunc_group_asked_L0_F z K ρ w := by kernel_rfl
theorem slices_rotateCmpFunc_group_asked_L0_ok : dstOk 58 slices_rotateCmpFunc_group_asked_L0 = true := by kernel_rfl
noncomputable def slices_rotateCmpFunc_group_asked_R1_F (z : At) (K : Exit → Sl → World → Prop) (ρ : Sl) (w : World) : Prop :=
  BK Tryd.prog .sub 3 (.tmp 51) (.tmp 52) (ρ 2) (ρ 10) w fun x53 w => CK Tryd.prog (Value.func (Fn.func 126) #[] #[]) [(ρ 0), x53, (ρ 2), (ρ 10), (ρ 4)] w fun x57 w => K .normal (up (up (up (up (up (up (up (up ρ 50 (ρ 0)) 51 (ρ 2)) 52 (ρ 10)) 53 x53) 54 (ρ 2)) 55 (ρ 10)) 56 (ρ 4)) 57 x57) w
theorem slices_rotateCmpFunc_group_asked_R1_eq (z : At) (K : Exit → Sl → World → Prop) (ρ : Sl) (w : World) : sx z Tryd.prog 58 slices_rotateCmpFunc_group_asked_R1 K ρ w = slices_rotateCmpFunc_group_asked_R1_F z K ρ w := by kernel_rfl
noncomputable def slices_rotateCmpFunc_group_asked_F (a0 a1 a2 a3 a4 : Value) (w : World) (R : Value → World → Prop) : Prop :=
  BK Tryd.prog .sub 3 (.tmp 12) (.tmp 13) a2 a1 w fun x14 w => BK Tryd.prog .sub 3 (.tmp 15) (.tmp 16) a3 a2 w fun x17 w => W fn_ Tryd.prog 58 (Code.loop slices_rotateCmpFunc_group_asked_L0) (blkK 0 (seqK (sx fn_ Tryd.prog 58 slices_rotateCmpFunc_group_asked_R1 (retK Tryd.prog [] R)) (retK Tryd.prog [] R))) (up (up (up (up (up (up (up (up (rho0 [a0, a1, a2, a3, a4]) 12 a2) 13 a1) 14 x14) 10 x14) 15 a3) 16 a2) 17 x17) 11 x17) w
theorem slices_rotateCmpFunc_group_asked_eq (a0 a1 a2 a3 a4 : Value) (w : World) (R : Value → World → Prop) : sx fn_ Tryd.prog 58 slices_rotateCmpFunc_group_asked_b (retK Tryd.prog Tryd.f125.results.toList R) (rho0 [a0, a1, a2, a3, a4]) w = slices_rotateCmpFunc_group_asked_F a0 a1 a2 a3 a4 w R := by kernel_rfl
theorem slices_rotateCmpFunc_group_asked_calls {a0 a1 a2 a3 a4 : Value} {w : World} {R : Value → World → Prop} (h : slices_rotateCmpFunc_group_asked_F a0 a1 a2 a3 a4 w R) : Calls Tryd.prog 125 #[a0, a1, a2, a3, a4] w fun e w' => ∃ v, e = .returned v ∧ R v w' :=
  Go.X.calls_of_sx (n := 58) (c := slices_rotateCmpFunc_group_asked_b) Tryd.func125 (by kernel_rfl) (by kernel_rfl) (Nat.le_of_ble_eq_true rfl) (by kernel_rfl) (Eq.mpr (slices_rotateCmpFunc_group_asked_eq a0 a1 a2 a3 a4 w R) h)
noncomputable def slices_swapRangeCmpFunc_group_asked_b : Code := (Tryd.f126.body).getD .skip
noncomputable def slices_swapRangeCmpFunc_group_asked_L0 : Code := cAt [1, 0, 0] slices_swapRangeCmpFunc_group_asked_b
noncomputable def slices_swapRangeCmpFunc_group_asked_R1 : Code := cAt [1, 0, 0, 1, 0, 0] slices_swapRangeCmpFunc_group_asked_b
noncomputable def slices_swapRangeCmpFunc_group_asked_R2 : Code := cAt [1, 0, 0, 1, 1] slices_swapRangeCmpFunc_group_asked_b
noncomputable def slices_swapRangeCmpFunc_group_asked_L0_F (z : At) (K : Exit → Sl → World → Prop) (ρ : Sl) (w : World) : Prop :=
  BK Tryd.prog .lss 3 (.tmp 11) (.tmp 12) (ρ 10) (ρ 3) w fun x13 w => CondK x13 (W z Tryd.prog 38 slices_swapRangeCmpFunc_group_asked_R1 (blkK 1 (seqK (sx z Tryd.prog 38 slices_swapRangeCmpFunc_group_asked_R2 K) K)) (up (up (up ρ 11 (ρ 10)) 12 (ρ 3)) 13 x13) w) (K (.exit 0) (up (up (up ρ 11 (ρ 10)) 12 (ρ 3)) 13 x13) w)
theorem slices_swapRangeCmpFunc_group_asked_L0_eq (z : At) (K : Exit → Sl → World → Prop) (ρ : Sl) (w : World) : sx z Tryd.prog 38 slices_swapRangeCmpFunc_group_asked_L0 K ρ w = slices_swapRangeCmpFunc_group_asked_L0_F z K ρ w := by kernel_rfl
theorem slices_swapRangeCmpFunc_group_asked_L0_ok : dstOk 38 slices_swapRangeCmpFunc_group_asked_L0 = true := by kernel_rfl
noncomputable def slices_swapRangeCmpFunc_group_asked_R1_ops : Array Oper := opsOf slices_swapRangeCmpFunc_group_asked_R1
def slices_swapRangeCmpFunc_group_asked_R1_H (S : World → Prop) (K : Exit → Sl → World → Prop) (ρ : Sl) (w : World) : Prop :=
  HK Tryd.prog S (do pure (Next.value (← (do eqGuard BinOp.add 3 (Operand.tmp 17) (Operand.tmp 18) (ρ 1) (ρ 10); binOp BinOp.add 3 (ρ 1) (ρ 10))))) fun x19 => HK Tryd.prog S (do pure (Next.value (← (do eqGuard BinOp.add 3 (Operand.tmp 21) (Operand.tmp 22) (ρ 2) (ρ 10); binOp BinOp.add 3 (ρ 2) (ρ 10))))) fun x23 => HK Tryd.prog S (do pure (Next.value (← (do eqGuard BinOp.add 3 (Operand.tmp 25) (Operand.tmp 26) (ρ 2) (ρ 10); binOp BinOp.add 3 (ρ 2) (ρ 10))))) fun x27 => HK Tryd.prog S (do pure (Next.value (← Instr.indexAt 159 (ρ 0) x27))) fun x28 => HK Tryd.prog S (do pure (Next.value (← (do eqGuard BinOp.add 3 (Operand.tmp 31) (Operand.tmp 32) (ρ 1) (ρ 10); binOp BinOp.add 3 (ρ 1) (ρ 10))))) fun x33 => HK Tryd.prog S (do pure (Next.value (← Instr.indexAt 159 (ρ 0) x33))) fun x34 => (VK Tryd.prog (Instr.loadAt 161 x28) w fun x29 w => S w ∧ (VK Tryd.prog (Instr.loadAt 161 x34) w fun x35 w => S w ∧ (HK Tryd.prog S (do pure (Next.value (← Instr.indexAt 159 (ρ 0) x19))) fun x36 => UK Tryd.prog (Instr.storeAt 161 x36 x29) w fun _ w => S w ∧ (HK Tryd.prog S (do pure (Next.value (← Instr.indexAt 159 (ρ 0) x23))) fun x37 => UK Tryd.prog (Instr.storeAt 161 x37 x35) w fun _ w => S w ∧ (K Exit.normal (up (up (up (up (up (up (up (up (up (up (up (up (up (up (up (up (up (up (up (up (up (up ρ 16 (ρ 0)) 17 (ρ 1)) 18 (ρ 10)) 19 x19) 20 (ρ 0)) 21 (ρ 2)) 22 (ρ 10)) 23 x23) 24 (ρ 0)) 25 (ρ 2)) 26 (ρ 10)) 27 x27) 28 x28) 30 (ρ 0)) 31 (ρ 1)) 32 (ρ 10)) 33 x33) 34 x34) 29 x29) 35 x35) 36 x36) 37 x37) w))))) ∧ (VK Tryd.prog (Instr.loadAt 161 x34) w fun x35_1 w => S w ∧ (VK Tryd.prog (Instr.loadAt 161 x28) w fun x29_1 w => S w ∧ (HK Tryd.prog S (do pure (Next.value (← Instr.indexAt 159 (ρ 0) x19))) fun x36_1 => UK Tryd.prog (Instr.storeAt 161 x36_1 x29_1) w fun _ w => S w ∧ (HK Tryd.prog S (do pure (Next.value (← Instr.indexAt 159 (ρ 0) x23))) fun x37_1 => UK Tryd.prog (Instr.storeAt 161 x37_1 x35_1) w fun _ w => S w ∧ (K Exit.normal (up (up (up (up (up (up (up (up (up (up (up (up (up (up (up (up (up (up (up (up (up (up ρ 16 (ρ 0)) 17 (ρ 1)) 18 (ρ 10)) 19 x19) 20 (ρ 0)) 21 (ρ 2)) 22 (ρ 10)) 23 x23) 24 (ρ 0)) 25 (ρ 2)) 26 (ρ 10)) 27 x27) 28 x28) 30 (ρ 0)) 31 (ρ 1)) 32 (ρ 10)) 33 x33) 34 x34) 35 x35_1) 29 x29_1) 36 x36_1) 37 x37_1) w)))))
theorem slices_swapRangeCmpFunc_group_asked_R1_held {D : List Deferred} (S : World → Prop) {K : Exit → Sl → World → Prop} {ρ : Sl} {w : World} (hS : S { w with drawn := w.drawn + 1 }) (h : slices_swapRangeCmpFunc_group_asked_R1_H S K ρ { w with drawn := w.drawn + 1 }) : W ⟨none, D⟩ Tryd.prog 38 slices_swapRangeCmpFunc_group_asked_R1 K ρ w := by
  have e : slices_swapRangeCmpFunc_group_asked_R1 = .region (idOf slices_swapRangeCmpFunc_group_asked_R1) slices_swapRangeCmpFunc_group_asked_R1_ops true := by kernel_rfl
  have q : sxd Tryd.prog S slices_swapRangeCmpFunc_group_asked_R1_ops (K .normal) (Pd.take 0 (Pd.take 1 (Pd.take 2 (Pd.take 3 (Pd.take 4 (Pd.take 5 (Pd.take 6 (Pd.take 7 (Pd.take 8 (Pd.take 9 (Pd.take 10 (Pd.take 11 (Pd.take 12 (Pd.take 14 (Pd.take 15 (Pd.take 16 (Pd.take 17 (Pd.take 18 (Pd.two false false 13 19 (Pd.only false 19 (Pd.take 20 (Pd.only false 21 (Pd.take 22 (Pd.only false 23 Pd.done))))) (Pd.only false 13 (Pd.take 20 (Pd.only false 21 (Pd.take 22 (Pd.only false 23 Pd.done)))))))))))))))))))))))) ρ { w with drawn := w.drawn + 1 } = slices_swapRangeCmpFunc_group_asked_R1_H S K ρ { w with drawn := w.drawn + 1 } := by kernel_rfl
  rw [e]
  exact W_pland S (Pd.take 0 (Pd.take 1 (Pd.take 2 (Pd.take 3 (Pd.take 4 (Pd.take 5 (Pd.take 6 (Pd.take 7 (Pd.take 8 (Pd.take 9 (Pd.take 10 (Pd.take 11 (Pd.take 12 (Pd.take 14 (Pd.take 15 (Pd.take 16 (Pd.take 17 (Pd.take 18 (Pd.two false false 13 19 (Pd.only false 19 (Pd.take 20 (Pd.only false 21 (Pd.take 22 (Pd.only false 23 Pd.done))))) (Pd.only false 13 (Pd.take 20 (Pd.only false 21 (Pd.take 22 (Pd.only false 23 Pd.done)))))))))))))))))))))))) (by kernel_rfl) (by kernel_rfl) (by kernel_rfl) (by kernel_rfl) hS (Eq.mpr q h)
noncomputable def slices_swapRangeCmpFunc_group_asked_R2_F (z : At) (K : Exit → Sl → World → Prop) (ρ : Sl) (w : World) : Prop :=
  BK Tryd.prog .add 3 (.tmp 14) (.const (Value.int .i64 1)) (ρ 10) (Value.int .i64 1) w fun x15 w => K .normal (up (up (up ρ 14 (ρ 10)) 15 x15) 10 x15) w
theorem slices_swapRangeCmpFunc_group_asked_R2_eq (z : At) (K : Exit → Sl → World → Prop) (ρ : Sl) (w : World) : sx z Tryd.prog 38 slices_swapRangeCmpFunc_group_asked_R2 K ρ w = slices_swapRangeCmpFunc_group_asked_R2_F z K ρ w := by kernel_rfl
noncomputable def slices_swapRangeCmpFunc_group_asked_F (a0 a1 a2 a3 a4 : Value) (w : World) (R : Value → World → Prop) : Prop :=
  W fn_ Tryd.prog 38 (Code.loop slices_swapRangeCmpFunc_group_asked_L0) (blkK 0 (retK Tryd.prog [] R)) (up (rho0 [a0, a1, a2, a3, a4]) 10 (Value.int .i64 0)) w
theorem slices_swapRangeCmpFunc_group_asked_eq (a0 a1 a2 a3 a4 : Value) (w : World) (R : Value → World → Prop) : sx fn_ Tryd.prog 38 slices_swapRangeCmpFunc_group_asked_b (retK Tryd.prog Tryd.f126.results.toList R) (rho0 [a0, a1, a2, a3, a4]) w = slices_swapRangeCmpFunc_group_asked_F a0 a1 a2 a3 a4 w R := by kernel_rfl
theorem slices_swapRangeCmpFunc_group_asked_calls {a0 a1 a2 a3 a4 : Value} {w : World} {R : Value → World → Prop} (h : slices_swapRangeCmpFunc_group_asked_F a0 a1 a2 a3 a4 w R) : Calls Tryd.prog 126 #[a0, a1, a2, a3, a4] w fun e w' => ∃ v, e = .returned v ∧ R v w' :=
  Go.X.calls_of_sx (n := 38) (c := slices_swapRangeCmpFunc_group_asked_b) Tryd.func126 (by kernel_rfl) (by kernel_rfl) (Nat.le_of_ble_eq_true rfl) (by kernel_rfl) (Eq.mpr (slices_swapRangeCmpFunc_group_asked_eq a0 a1 a2 a3 a4 w R) h)
end Go.Proofs.YtandbmnhghmcgaaDoor.XF
set_option linter.unusedVariables false
namespace Go.Proofs.YtandbmnhghmcgaaDoor.XK
open Go Go.X
end Go.Proofs.YtandbmnhghmcgaaDoor.XK
set_option linter.unusedVariables false
set_option linter.unusedSimpArgs false
set_option maxRecDepth 4000
namespace Go.X
open Go Go.RowKit
def strV (k : List UInt8) : Value := .string ⟨k.toArray⟩
def sb (v : Value) (b : Nat) : Prop := v.ownBlock = some b
theorem findE_none {κ : Type} [DecidableEq κ] {k : κ} : ∀ {l : List (Ent κ)} {n : Nat}, findE k l n = none ↔ ∀ e ∈ l, e.k ≠ k
  | [], n => by simp [findE]
  | e :: r, n => by
    unfold findE
    by_cases h : k = e.k
    · simp [h]
    · simp only [h, if_false, findE_none (l := r) (n := n + 1), List.mem_cons]
      refine ⟨fun q x hx => ?_, fun q x hx => q x (.inr hx)⟩
      rcases hx with rfl | hx
      · exact fun z => h z.symm
      · exact q x hx
theorem app_get {α : Type} {l : List α} {x : α} {i : Nat} {a : α} (hi : (l ++ [x])[i]? = some a) : l[i]? = some a ∨ i = l.length ∧ a = x := by
  rcases Nat.lt_or_ge i l.length with q | q
  · rw [List.getElem?_append_left q] at hi; exact .inl hi
  · rw [List.getElem?_append_right q] at hi
    have : i - l.length = 0 := by
      rcases Nat.eq_zero_or_pos (i - l.length) with z | z
      · exact z
      · rw [List.getElem?_eq_none (by simp only [List.length_cons, List.length_nil]; omega)] at hi; cases hi
    rw [this] at hi
    exact .inr ⟨by omega, by simpa using hi.symm⟩
theorem bl_irr : ∀ a : List UInt8, Op.bytesLess a a = false
  | [] => rfl
  | a :: x => by simp [Op.bytesLess, bl_irr x]
theorem bl_tri : ∀ {a b : List UInt8}, Op.bytesLess a b = false → Op.bytesLess b a = false → a = b
  | [], [], _, _ => rfl
  | [], _ :: _, h, _ => by simp [Op.bytesLess] at h
  | _ :: _, [], _, h => by simp [Op.bytesLess] at h
  | a :: x, b :: y, h, k => by
    simp only [Op.bytesLess, Bool.or_eq_false_iff, decide_eq_false_iff_not, Bool.and_eq_false_iff] at h k
    have e : a = b := by
      apply UInt8.le_antisymm
      · exact UInt8.not_lt.1 k.1
      · exact UInt8.not_lt.1 h.1
    subst e
    simp at h k
    rw [bl_tri h k]
theorem bl_tr : ∀ {a b c : List UInt8}, Op.bytesLess a b = true → Op.bytesLess b c = true → Op.bytesLess a c = true
  | _, [], _, h, _ => by cases ‹List UInt8› <;> simp [Op.bytesLess] at h
  | _, _ :: _, [], _, h => by simp [Op.bytesLess] at h
  | [], _ :: _, _ :: _, _, _ => by simp [Op.bytesLess]
  | a :: x, b :: y, c :: z, h, k => by
    simp only [Op.bytesLess, Bool.or_eq_true, decide_eq_true_eq, Bool.and_eq_true, beq_iff_eq] at h k ⊢
    rcases h with h | ⟨rfl, h⟩ <;> rcases k with k | ⟨rfl, k⟩
    · exact .inl (UInt8.lt_trans h k)
    · exact .inl h
    · exact .inl k
    · exact .inr ⟨rfl, bl_tr h k⟩
theorem bl_asym {a b : List UInt8} (h : Op.bytesLess a b = true) : Op.bytesLess b a = false := by
  cases k : Op.bytesLess b a with
  | false => rfl
  | true => have := bl_tr h k; rw [bl_irr] at this; cases this
def cmpI (a b : Int) : Int := if a < b then -1 else if b < a then 1 else 0
def orI (l : List Int) : Int := (l.find? (fun x => decide (x ≠ 0))).getD 0
theorem cmpI_zero {a b : Int} : cmpI a b = 0 ↔ a = b := by
  unfold cmpI
  split
  · omega
  · split <;> omega
theorem cmpI_neg {a b : Int} : cmpI a b < 0 ↔ a < b := by
  unfold cmpI
  split
  · omega
  · split <;> omega
def ints (l : List Int) : List Value := l.map (Value.int .i64)
theorem ints_get {l : List Int} {i : Nat} {x : Int} (h : l[i]? = some x) : (ints l)[i]? = some (.int .i64 x) := by unfold ints; simp [h]
theorem bs0_k {P : Program} {w : World} {K : Value → World → Prop} {t e : TypeId} {n : Nat} (hu : P.underlying t = some (.slice e)) (hi : (P.info? e).map (·.size) = some n)
    (hk : ∀ w', w'.heap[w.heap.size]? = some (.cells #[] e (0, 0)) → Mod none_ w w' → w'.heap.size = w.heap.size + 1 → K (.slice (some ⟨w.heap.size, 0, none⟩) 0 0) w') : VK P (Instr.buildSlice t 0 [].toArray) w K := by
  obtain ⟨ie, hie, _⟩ := Option.map_eq_some_iff.1 hi
  have hr : (Instr.buildSlice t 0 [].toArray).run P w = .ok (.slice (some ⟨w.heap.size, 0, none⟩) 0 0) (w.alloc (.cells #[] e)) := by
    simp [Instr.buildSlice, Sem.run_bind, run_underlying hu, sizeOf, typeInfo, hie, Instr.fill, newRow]
    rw [Array.eq_empty_of_size_eq_zero (xs := Array.map _ (Array.range 0)) (by simp)]
  exact VK_of hr (new_k w _ hk)
theorem owns_zero {w : World} {b : Nat} {e : TypeId} {size base : Nat} (h : w.heap[b]? = some (.cells #[] e (0, 0))) (hb : base ≤ b) : w.ownsRow base e size (.slice (some ⟨b, 0, none⟩) 0 0) 0 [] :=
  ⟨by simp, .inr ⟨b, 0, #[], rfl, hb, h, Nat.le_refl _, Nat.zero_le _, by simp, by simp⟩⟩
theorem findE_map {κ : Type} [DecidableEq κ] {k : κ} : ∀ {l : List (Ent κ)} {n : Nat}, (findE k l n).map (·.2) = (l.find? fun e => decide (e.k = k)).map (·.v)
  | [], n => rfl
  | e :: r, n => by
    unfold findE
    by_cases h : k = e.k
    · rw [if_pos h, List.find?_cons_of_pos (by simp [h])]; rfl
    · rw [if_neg h, List.find?_cons_of_neg (by simpa using fun q : e.k = k => h q.symm)]
      exact findE_map
theorem beqB (a b : List UInt8) : ((⟨a.toArray⟩ : ByteArray) == ⟨b.toArray⟩) = decide (a = b) := by
  show ((a.toArray : Array UInt8) == b.toArray) = decide (a = b)
  by_cases h : a = b
  · subst h; simp
  · rw [decide_eq_false h]
    apply Bool.eq_false_iff.2
    intro q
    apply h
    have := eq_of_beq q
    simpa using this
end Go.X
namespace Go.Proofs.YtandbmnhghmcgaaDoor.Col
open Go Go.X Go.RowKit Go.Proofs.YtandbmnhghmcgaaDoor.XF Go.Proofs.YtandbmnhghmcgaaDoor.XK
theorem vI : Tryd.prog.underlying 3 = some (.int .i64) := by kernel_rfl
theorem vB : Tryd.prog.underlying 4 = some .bool := by kernel_rfl
theorem vS : Tryd.prog.underlying 9 = some .string := by kernel_rfl
theorem isNaNI_ok (a : Int) (w : World) : Rt Tryd.prog 119 #[.int .i64 a] w fun v w' => v = .bool false ∧ w' = w := by
  refine cmp_isNaN_int_calls ?_
  unfold cmp_isNaN_int_F
  rw [NEf rfl]
  exact ⟨rfl, rfl⟩
theorem CompareI_ok (a b : Int) (w : World) : Rt Tryd.prog 107 #[.int .i64 a, .int .i64 b] w fun v w' => v = .int .i64 (cmpI a b) ∧ w' = w := by
  refine cmp_Compare_int_calls ?_
  unfold cmp_Compare_int_F
  refine CK_st Tryd.func119 rfl rfl (isNaNI_ok a w) ?_
  rintro _ w' ⟨rfl, rfl⟩
  refine CK_st Tryd.func119 rfl rfl (isNaNI_ok b w') ?_
  rintro _ w' ⟨rfl, rfl⟩
  refine condF (condF ?_)
  rw [BK_lss]
  unfold cmpI
  refine caseC (fun h => ?_) (fun h => ?_)
  · rw [if_pos (by simpa using h)]; exact ⟨rfl, rfl⟩
  · rw [if_neg (by simpa using h), BK_gtr]
    refine caseC (fun k => ?_) (fun k => ?_)
    · rw [if_pos (by simpa using k)]; exact ⟨rfl, rfl⟩
    · rw [if_neg (by simpa using k)]; exact ⟨rfl, rfl⟩
theorem vIs : Tryd.prog.underlying 30 = some (.slice 3) := by kernel_rfl
theorem cI : Tryd.prog.cellsOf 3 = 1 := by kernel_rfl
theorem Or_ok {w : World} {v : Value} {l : List Int} (h : reads w 1 v l.length (ints l)) (hl : l.length ≤ 1000) : Rt Tryd.prog 106 #[v] w fun u w' => u = .int .i64 (orI l) ∧ w' = w := by
  obtain ⟨A, c, hs, _⟩ := reads_cap h
  refine cmp_Or_int_calls ?_
  unfold cmp_Or_int_F
  rw [hs, len_sl vIs, ← hs]
  refine W_loop cmp_Or_int_L0_ok (fun ρ w' => ∃ n : Nat, n ≤ l.length ∧ ρ 8 = .int .i64 n ∧ ρ 7 = .int .i64 l.length ∧ ρ 6 = v ∧ ρ 3 = .int .i64 0 ∧ (∀ a ∈ l.take n, a = 0) ∧ w' = w) (fun ρ _ => l.length - (intOf (ρ 8)).toNat)
    ⟨0, Nat.zero_le _, rfl, rfl, rfl, rfl, by simp, rfl⟩ ?_
  rintro ρ w1 ⟨n, hn, h8, h7, h6, h3, hno, rfl⟩
  rw [cmp_Or_int_L0_eq]; unfold cmp_Or_int_L0_F
  rw [h8, h7, h6, h3, BK_lss]
  by_cases hlt : n < l.length
  · rw [decide_eq_true (by omega)]
    refine condT ?_
    have hx : l[n]? = some l[n] := List.getElem?_eq_getElem hlt
    refine ixld vIs cI vI rfl h (by omega) (by rw [Int.toNat_natCast]; exact ints_get hx) fun y => ?_
    rw [BK_neq]
    refine caseC (fun q => ?_) (fun q => ?_)
    · refine ⟨?_, rfl⟩
      have hne : l[n] ≠ 0 := by simpa using q
      have : l.find? (fun x => decide (x ≠ 0)) = some l[n] := by
        rw [List.find?_eq_some_iff_getElem]
        exact ⟨by simpa using hne, n, hlt, rfl, fun j hj => by
          have := hno l[j] (List.mem_take_iff_getElem.2 ⟨j, by omega, rfl⟩)
          simp [this]⟩
      unfold orI; rw [this]; rfl
    · rw [BK_add, wrap_i (by omega) (by omega)]
      refine ⟨⟨n + 1, hlt, rfl, h7, h6, h3, ?_, rfl⟩, ?_⟩
      · rw [List.take_add_one, hx, Option.toList_some]
        intro a z
        rcases List.mem_append.1 z with z | z
        · exact hno a z
        · rw [List.mem_singleton.1 z]; simpa using q
      · simp only [sq_n, sq_x, sq_r, bk_n, bk_r, bk_x, rt_r, rt_n, rs_0, rs_t, pk_1, pk_2, up_at, reduceIte, Nat.reduceEqDiff, intOf]; omega
  · obtain rfl : n = l.length := by omega
    rw [decide_eq_false (by omega)]
    refine condF ?_
    rw [sq_x, bk_x, sq_n, cmp_Or_int_R1_eq]; unfold cmp_Or_int_R1_F
    refine ⟨?_, rfl⟩
    rw [List.take_length] at hno
    unfold orI
    rw [List.find?_eq_none.2 (fun a ha => by simp [hno a ha])]
    exact h3
theorem chkS (e : Bool) (n : Nat) (k : ByteArray) (w : World) : (Instr.checkKey e (n + 1) 9 (.string k)).run Tryd.prog w = .ok () w := by
  simp [Instr.checkKey, Sem.run_bind, run_underlying vS]
theorem KT : KeyT Tryd.prog 9 strV where
  find := fun k l w => by
    have gen : ∀ (l : List (Ent (List UInt8))) (i : Nat), Instr.findNow .string (strV k) (l.map (Ent.enc strV)) i = some (findE k l i) := by
      intro l
      induction l with
      | nil => intro i; rfl
      | cons e r ih =>
        intro i
        simp only [List.map_cons, Instr.findNow, Ent.enc, strV, Instr.sameNow, beqB, findE]
        by_cases h : k = e.k
        · simp [h]
        · simp only [h, decide_false, if_false]
          exact ih (i + 1)
    unfold Instr.findKey
    rw [Sem.run_bind, run_underlying vS]
    simp only [Result.andThen_ok, gen]
    rfl
  check := fun e k w => chkS e 9999 _ w
  bits := fun k => by
    show Instr.sameBits (9999 + 1) _ _ = true
    simp [strV, Instr.sameBits]
    show ((k.toArray : Array UInt8) == k.toArray) = true
    simp
  inj := fun a b h => by simpa [strV] using h
end Go.Proofs.YtandbmnhghmcgaaDoor.Col
set_option linter.unusedVariables false
set_option linter.unusedSimpArgs false
namespace Go.X
open Go
abbrev Ky := List UInt8
structure Pt where
  kind : Int
  root : Int
  op : Int
  val : Int
  color : Int
  key : Int
  deriving DecidableEq
def zPt : Pt := ⟨0, 0, 0, 0, 0, 0⟩
structure Br where
  key : Ky
  ranks : List Int
  rank : Int
  p : Pt
def atK (key : Ky) (rank : Int) (b : Br) : Bool := decide (b.key = key) && decide (b.rank = rank)
def grpC (L : List Br) (key : Ky) : Option (List Int) := (L.find? fun b => decide (b.key = key)).map (·.ranks)
def partsC (L : List Br) (key : Ky) (rank : Int) : List Pt := (L.filter (atK key rank)).map (·.p)
def nthC (l : List Pt) (k : Int) : Option Pt := if 0 ≤ k then l[k.toNat]? else none
def partC (L : List Br) (key : Ky) (rank : Int) (k : Int) : Option Pt := nthC (partsC L key rank) k
def mayG (r : List Int) : Bool := decide (0 < r.length) && (r.all (fun x => decide (0 ≤ x) && decide (x ≤ 63)) && decide r.Nodup)
def rootedK (k : Int) : Bool := decide (k = 16) || (decide (k = 17) || decide (k = 19))
def reducesK (k : Int) : Bool := decide (k = 17) || decide (k = 18)
def mayPt (n : Nat) (p : Pt) : Bool := decide (15 ≤ p.kind) && decide (p.kind ≤ 21) && (decide (0 ≤ p.root) && decide (p.root < n)) && (decide (p.root = 0) || rootedK p.kind) && (decide (p.op ≤ 2) && (decide (p.op = 0) || reducesK p.kind))
def fitPt (a b : Pt) : Bool := decide (a.kind = b.kind) && (decide (a.root = b.root) && decide (a.op = b.op))
def sameG (L : List Br) (key : Ky) (ranks : List Int) : Bool := match grpC L key with | none => true | some r => decide (r = ranks)
def okC (L : List Br) (b : Br) : Bool := mayG b.ranks && (decide (b.rank ∈ b.ranks) && (sameG L b.key b.ranks && mayPt b.ranks.length b.p))
def bringC (L : List Br) (b : Br) : List Br × Int × Int := if okC L b then (L ++ [b], (partsC L b.key b.rank).length, 0) else (L, 0, 2)
structure CInv (L : List Br) : Prop where
  ok : ∀ b ∈ L, mayG b.ranks = true ∧ b.rank ∈ b.ranks ∧ mayPt b.ranks.length b.p = true ∧ grpC L b.key = some b.ranks
theorem CInv.nil : CInv [] := ⟨fun b hb => by cases hb⟩
theorem grpC_snoc (L : List Br) (b : Br) (k : Ky) : grpC (L ++ [b]) k = match grpC L k with | some r => some r | none => if b.key = k then some b.ranks else none := by
  unfold grpC
  rw [List.find?_append]
  cases L.find? (fun b => decide (b.key = k)) with
  | some x => rfl
  | none =>
    by_cases h : b.key = k
    · simp [h]
    · simp [h]
theorem partsC_snoc (L : List Br) (b : Br) (k : Ky) (r : Int) : partsC (L ++ [b]) k r = partsC L k r ++ (if atK k r b then [b.p] else []) := by
  unfold partsC
  rw [List.filter_append, List.map_append]
  by_cases h : atK k r b = true
  · simp [h]
  · simp [h]
theorem partsC_mem {L : List Br} {k : Ky} {r : Int} {p : Pt} (h : p ∈ partsC L k r) : ∃ b ∈ L, b.key = k ∧ b.rank = r ∧ b.p = p := by
  unfold partsC at h
  obtain ⟨b, hb, rfl⟩ := List.mem_map.1 h
  obtain ⟨h1, h2⟩ := List.mem_filter.1 hb
  simp only [atK, Bool.and_eq_true, decide_eq_true_eq] at h2
  exact ⟨b, h1, h2.1, h2.2, rfl⟩
theorem grpC_some {L : List Br} {k : Ky} {r : List Int} (h : grpC L k = some r) : ∃ b ∈ L, b.key = k ∧ b.ranks = r := by
  unfold grpC at h
  obtain ⟨b, hb, rfl⟩ := Option.map_eq_some_iff.1 h
  exact ⟨b, List.mem_of_find?_eq_some hb, by simpa using List.find?_some hb, rfl⟩
theorem grpC_isSome {L : List Br} {k : Ky} : (grpC L k).isSome = true ↔ ∃ b ∈ L, b.key = k := by
  unfold grpC
  simp [Option.isSome_map, List.find?_isSome]
theorem CInv.part {L : List Br} (h : CInv L) {k : Ky} {r : Int} {p : Pt} (hp : p ∈ partsC L k r) : ∃ g, grpC L k = some g ∧ r ∈ g ∧ mayPt g.length p = true := by
  obtain ⟨b, hb, rfl, rfl, rfl⟩ := partsC_mem hp
  obtain ⟨_, h2, h3, h4⟩ := h.ok b hb
  exact ⟨b.ranks, h4, h2, h3⟩
theorem CInv.grp {L : List Br} (h : CInv L) {k : Ky} {g : List Int} (hg : grpC L k = some g) : mayG g = true := by
  obtain ⟨b, hb, rfl, rfl⟩ := grpC_some hg
  exact (h.ok b hb).1
theorem CInv.none {L : List Br} (h : CInv L) {k : Ky} (hg : grpC L k = .none) (r : Int) : partsC L k r = [] := by
  cases hp : partsC L k r with
  | nil => rfl
  | cons p l =>
    obtain ⟨g, h1, _⟩ := h.part (k := k) (r := r) (p := p) (by rw [hp]; simp)
    rw [hg] at h1; cases h1
theorem CInv.other {L : List Br} (h : CInv L) {k : Ky} {g : List Int} (hg : grpC L k = some g) {r : Int} (hr : r ∉ g) : partsC L k r = [] := by
  cases hp : partsC L k r with
  | nil => rfl
  | cons p l =>
    obtain ⟨g', h1, h2, _⟩ := h.part (k := k) (r := r) (p := p) (by rw [hp]; simp)
    rw [hg] at h1; cases h1; exact absurd h2 hr
theorem CInv.bring {L : List Br} (h : CInv L) {b : Br} (hb : okC L b = true) : CInv (L ++ [b]) := by
  unfold okC at hb
  simp only [Bool.and_eq_true, decide_eq_true_eq] at hb
  obtain ⟨h1, h2, h3, h4⟩ := hb
  refine ⟨fun x hx => ?_⟩
  rcases List.mem_append.1 hx with hx | hx
  · obtain ⟨a1, a2, a3, a4⟩ := h.ok x hx
    exact ⟨a1, a2, a3, by rw [grpC_snoc, a4]⟩
  · obtain rfl := List.mem_singleton.1 hx
    refine ⟨h1, h2, h4, ?_⟩
    rw [grpC_snoc]
    unfold sameG at h3
    cases hg : grpC L x.key with
    | none => simp
    | some r => rw [hg] at h3; simp only [decide_eq_true_eq] at h3; rw [h3]
theorem CInv.bringC {L : List Br} (h : CInv L) (b : Br) : CInv (bringC L b).1 := by
  unfold X.bringC
  split
  · exact h.bring (by assumption)
  · exact h
theorem bringC_len (L : List Br) (b : Br) : (bringC L b).1.length ≤ L.length + 1 := by
  unfold bringC
  split
  · simp
  · simp
theorem mayG_iff {r : List Int} : mayG r = true ↔ 0 < r.length ∧ (∀ x ∈ r, 0 ≤ x ∧ x ≤ 63) ∧ r.Nodup := by
  simp [mayG, List.all_eq_true]
def fitO (L : List Br) (key : Ky) (k : Int) (own : Pt) (r : Int) : Bool := match partC L key r k with | some p => fitPt p own | none => false
def overC (loose : Bool) (L : List Br) (key : Ky) (rank k : Int) : Bool :=
  match partC L key rank k with
  | none => false
  | some own =>
    let g := (grpC L key).getD []
    if loose && decide (own.kind = 16) then fitO L key k own (g.getD own.root.toNat 0)
    else if loose && (rootedK own.kind && decide (g.getD own.root.toNat 0 ≠ rank)) then true
    else g.all (fitO L key k own)
structure Td where
  val : Int
  row : List Int
  gkey : Ky
  ranks : List Int
  has : Bool
def zTd : Td := ⟨0, [], [], [], false⟩
def valsC (L : List Br) (key : Ky) (g : List Int) (k : Int) : List Int := g.map fun r => ((partC L key r k).getD zPt).val
def redC (op : Int) : List Int → Int
  | [] => 0
  | v :: l => l.foldl (fun s v => if op = 0 then IntKind.i64.wrap (s + v) else if op = 1 then (if s < v then v else s) else if v < s then v else s) v
def askC (L : List Br) (key : Ky) (g : List Int) (k : Int) : List (Int × Int) := g.map fun r => let p := (partC L key r k).getD zPt; (p.color, p.key)
structure Ak where
  color : Int
  key : Int
  rank : Int
  deriving DecidableEq
def ltA (a b : Ak) : Bool := decide (a.color < b.color) || (decide (a.color = b.color) && decide (a.key < b.key))
def insA (x : Ak) : List Ak → List Ak
  | [] => [x]
  | y :: l => if ltA x y then x :: y :: l else y :: insA x l
def sortA (l : List Ak) : List Ak := l.foldl (fun s x => insA x s) []
def asksC (g : List Int) (asks : List (Int × Int)) : List Ak := ((g.zip asks).map fun x => ⟨x.2.1, x.2.2, x.1⟩).filter fun a => decide (0 ≤ a.color)
def grpA : List (Int × List Int) → List Ak → List (Int × List Int)
  | out, [] => out
  | out, a :: l => match out.getLast? with
    | some (c, r) => if c = a.color then grpA (out.dropLast ++ [(c, r ++ [a.rank])]) l else grpA (out ++ [(a.color, [a.rank])]) l
    | none => grpA [(a.color, [a.rank])] l
def splitC (g : List Int) (asks : List (Int × Int)) : List (Int × List Int) := grpA [] (sortA (asksC g asks))
end Go.X
set_option linter.unusedVariables false
set_option linter.unusedSimpArgs false
namespace Go.X
structure WO {α : Type} (lt : α → α → Bool) : Prop where
  irr : ∀ a, lt a a = false
  asym : ∀ a b, lt a b = true → lt b a = false
  tr : ∀ a b c, lt b a = false → lt c b = false → lt c a = false
section
variable {α : Type} {lt : α → α → Bool}
def eqv (lt : α → α → Bool) (a b : α) : Bool := !lt a b && !lt b a
def SortedL (lt : α → α → Bool) (l : List α) : Prop := l.Pairwise fun a b => lt b a = false
structure Stab (lt : α → α → Bool) (l s : List α) : Prop where
  so : SortedL lt s
  eq : ∀ x, s.filter (eqv lt x) = l.filter (eqv lt x)
theorem eqv_refl (W : WO lt) (a : α) : eqv lt a a = true := by simp [eqv, W.irr]
theorem SameF.mem (W : WO lt) {l s : List α} (h : ∀ x, s.filter (eqv lt x) = l.filter (eqv lt x)) {a : α} : a ∈ s ↔ a ∈ l := by
  have h1 : a ∈ s ↔ a ∈ s.filter (eqv lt a) := by simp [eqv_refl W]
  have h2 : a ∈ l ↔ a ∈ l.filter (eqv lt a) := by simp [eqv_refl W]
  rw [h1, h2, h]
theorem Stab.mem (W : WO lt) {l s : List α} (h : Stab lt l s) {a : α} : a ∈ s ↔ a ∈ l := SameF.mem W h.eq
theorem stab_uniq' (W : WO lt) : ∀ {s t : List α}, SortedL lt s → SortedL lt t → (∀ x, s.filter (eqv lt x) = t.filter (eqv lt x)) → s = t
  | [], t, _, _, h => by
    cases t with
    | nil => rfl
    | cons b t =>
      have := h b
      simp [eqv_refl W] at this
  | a :: s, [], _, _, h => by
    have := h a
    simp [eqv_refl W] at this
  | a :: s, b :: t, hs, ht, h => by
    have hab : lt a b = false := by
      have : b ∈ a :: s := (SameF.mem W h).2 (by simp)
      rcases List.mem_cons.1 this with q | q
      · rw [q]; exact W.irr _
      · by_cases c : lt a b = true
        · have ha : a ∈ b :: t := (SameF.mem W h).1 (by simp)
          rcases List.mem_cons.1 ha with z | z
          · rw [z]; exact W.irr _
          · exact (List.pairwise_cons.1 ht).1 a z
        · simpa using c
    have hba : lt b a = false := by
      have : a ∈ b :: t := (SameF.mem W h).1 (by simp)
      rcases List.mem_cons.1 this with q | q
      · rw [q]; exact W.irr _
      · have hb : b ∈ a :: s := (SameF.mem W h).2 (by simp)
        rcases List.mem_cons.1 hb with z | z
        · rw [z]; exact W.irr _
        · exact (List.pairwise_cons.1 hs).1 b z
    have hx := h a
    have e : eqv lt a b = true := by simp [eqv, hab, hba]
    rw [List.filter_cons_of_pos (eqv_refl W a), List.filter_cons_of_pos e] at hx
    obtain ⟨rfl, _⟩ := List.cons.inj hx
    rw [stab_uniq' W (List.pairwise_cons.1 hs).2 (List.pairwise_cons.1 ht).2 (fun x => ?_)]
    have := h x
    by_cases c : eqv lt x a = true
    · rw [List.filter_cons_of_pos c, List.filter_cons_of_pos c] at this
      exact (List.cons.inj this).2
    · rw [List.filter_cons_of_neg c, List.filter_cons_of_neg c] at this
      exact this
theorem stab_uniq (W : WO lt) {l s t : List α} (hs : Stab lt l s) (ht : Stab lt l t) : s = t := stab_uniq' W hs.so ht.so fun x => (hs.eq x).trans (ht.eq x).symm
theorem Stab.len (W : WO lt) : ∀ {l s : List α}, (∀ x, s.filter (eqv lt x) = l.filter (eqv lt x)) → s.length = l.length := by
  intro l
  induction hn : l.length using Nat.strongRecOn generalizing l with
  | ind n ih =>
    intro s h
    cases l with
    | nil =>
      cases s with
      | nil => simpa using hn
      | cons b s => have := h b; simp [eqv_refl W] at this
    | cons a l =>
      have c1 : ∀ (m : List α), m.length = (m.filter (eqv lt a)).length + (m.filter fun x => !eqv lt a x).length := fun m => by
        induction m with
        | nil => rfl
        | cons b m ih => by_cases c : eqv lt a b = true <;> simp [c, ih] <;> omega
      have c2 := c1 s
      have c3 := c1 (a :: l)
      rw [h a] at c2
      have key : (s.filter fun x => !eqv lt a x).length = ((a :: l).filter fun x => !eqv lt a x).length := by
        refine ih _ ?_ rfl (fun x => ?_)
        · rw [← hn]
          rw [List.filter_cons_of_neg (by simp [eqv_refl W])]
          exact Nat.lt_of_le_of_lt (List.length_filter_le _ _) (by simp)
        · rw [List.filter_filter, List.filter_filter]
          have e1 : ∀ m : List α, m.filter (fun y => eqv lt x y && !eqv lt a y) = (m.filter (eqv lt x)).filter fun y => !eqv lt a y := fun m => by
            rw [List.filter_filter]
            congr 1; funext y; rw [Bool.and_comm]
          rw [e1, e1, h x]
      omega
theorem SortedL.app {s t : List α} (hs : SortedL lt s) (ht : SortedL lt t) (h : ∀ a ∈ s, ∀ b ∈ t, lt b a = false) : SortedL lt (s ++ t) := List.pairwise_append.2 ⟨hs, ht, h⟩
theorem Stab.refl {l : List α} (h : SortedL lt l) : Stab lt l l := ⟨h, fun _ => rfl⟩
theorem Stab.trans {l m s : List α} (h : ∀ x, m.filter (eqv lt x) = l.filter (eqv lt x)) (k : Stab lt m s) : Stab lt l s := ⟨k.so, fun x => (k.eq x).trans (h x)⟩
theorem Stab.app (W : WO lt) {l1 l2 s1 s2 : List α} (h1 : Stab lt l1 s1) (h2 : Stab lt l2 s2) (h : ∀ a ∈ l1, ∀ b ∈ l2, lt b a = false) : Stab lt (l1 ++ l2) (s1 ++ s2) := by
  refine ⟨h1.so.app h2.so fun a ha b hb => h a ((h1.mem W).1 ha) b ((h2.mem W).1 hb), fun x => ?_⟩
  rw [List.filter_append, List.filter_append, h1.eq, h2.eq]
theorem filt_swap (W : WO lt) {A B : List α} (h : ∀ a ∈ A, ∀ b ∈ B, lt b a = true) (x : α) : (B ++ A).filter (eqv lt x) = (A ++ B).filter (eqv lt x) := by
  rw [List.filter_append, List.filter_append]
  by_cases c : A.filter (eqv lt x) = []
  · rw [c]; simp
  · have : B.filter (eqv lt x) = [] := by
      obtain ⟨a, ha⟩ := List.exists_mem_of_ne_nil _ c
      rw [List.mem_filter] at ha
      refine List.filter_eq_nil_iff.2 fun b hb q => ?_
      have hba := h a ha.1 b hb
      have e1 := ha.2
      simp only [eqv, Bool.and_eq_true, Bool.not_eq_true'] at e1 q
      have : lt b a = false := W.tr a x b e1.1 q.2
      rw [hba] at this; cases this
    rw [this]; simp
theorem stab_ins (W : WO lt) {S1 S2 : List α} {x : α} (hs : SortedL lt (S1 ++ S2)) (h1 : ∀ a ∈ S1, lt x a = false) (h2 : ∀ b ∈ S2, lt x b = true) : Stab lt ((S1 ++ S2) ++ [x]) (S1 ++ x :: S2) := by
  refine ⟨?_, fun y => ?_⟩
  · rw [SortedL, List.pairwise_append] at hs ⊢
    refine ⟨hs.1, List.pairwise_cons.2 ⟨fun b hb => W.asym _ _ (h2 b hb), hs.2.1⟩, fun a ha b hb => ?_⟩
    rcases List.mem_cons.1 hb with rfl | hb
    · exact h1 a ha
    · exact hs.2.2 a ha b hb
  · have : S1 ++ x :: S2 = S1 ++ ([x] ++ S2) := by simp
    rw [this, List.append_assoc, List.filter_append, List.filter_append (p := eqv lt y) S1, filt_swap W (A := S2) (B := [x]) (fun a ha b hb => by rw [List.mem_singleton.1 hb]; exact h2 a ha)]
theorem stab_out (W : WO lt) {Y1 Y2 : List α} {x : α} (hs : SortedL lt (Y1 ++ Y2)) (h1 : ∀ a ∈ Y1, lt a x = true) (h2 : ∀ b ∈ Y2, lt b x = false) : Stab lt (x :: (Y1 ++ Y2)) (Y1 ++ x :: Y2) := by
  refine ⟨?_, fun y => ?_⟩
  · rw [SortedL, List.pairwise_append] at hs ⊢
    refine ⟨hs.1, List.pairwise_cons.2 ⟨h2, hs.2.1⟩, fun a ha b hb => ?_⟩
    rcases List.mem_cons.1 hb with rfl | hb
    · exact W.asym _ _ (h1 a ha)
    · exact hs.2.2 a ha b hb
  · have e1 : Y1 ++ x :: Y2 = (Y1 ++ [x]) ++ Y2 := by simp
    have e2 : x :: (Y1 ++ Y2) = ([x] ++ Y1) ++ Y2 := by simp
    rw [e1, e2, List.filter_append, List.filter_append (p := eqv lt y) ([x] ++ Y1), filt_swap W (A := [x]) (B := Y1) (fun a ha b hb => by rw [List.mem_singleton.1 ha]; exact h1 b hb)]
theorem SortedL.at_ {l : List α} (h : SortedL lt l) {i j : Nat} {a b : α} (hij : i < j) (ha : l[i]? = some a) (hb : l[j]? = some b) : lt b a = false := by
  obtain ⟨hj, rfl⟩ := List.getElem?_eq_some_iff.1 hb
  obtain ⟨hi, rfl⟩ := List.getElem?_eq_some_iff.1 ha
  exact List.pairwise_iff_getElem.1 h i j hi hj hij
theorem SortedL.le_at (W : WO lt) {l : List α} (h : SortedL lt l) {i j : Nat} {a b : α} (hij : i ≤ j) (ha : l[i]? = some a) (hb : l[j]? = some b) : lt b a = false := by
  rcases Nat.lt_or_eq_of_le hij with q | q
  · exact h.at_ q ha hb
  · subst q; rw [ha] at hb; cases hb; exact W.irr _
theorem stab_halves (W : WO lt) {X1 X2 Y1 Y2 S1 S2 : List α} (hX : SortedL lt (X1 ++ X2)) (hY : SortedL lt (Y1 ++ Y2)) (hxy : ∀ a ∈ X1, ∀ b ∈ Y2, lt b a = false) (hyx : ∀ a ∈ X2, ∀ b ∈ Y1, lt b a = true)
    (h1 : Stab lt (X1 ++ Y1) S1) (h2 : Stab lt (X2 ++ Y2) S2) : Stab lt ((X1 ++ X2) ++ (Y1 ++ Y2)) (S1 ++ S2) := by
  have hX' := List.pairwise_append.1 hX
  have hY' := List.pairwise_append.1 hY
  refine Stab.trans (m := (X1 ++ Y1) ++ (X2 ++ Y2)) (fun x => ?_) (Stab.app W h1 h2 fun a ha b hb => ?_)
  · have e1 : (X1 ++ Y1) ++ (X2 ++ Y2) = X1 ++ ((Y1 ++ X2) ++ Y2) := by simp
    have e2 : (X1 ++ X2) ++ (Y1 ++ Y2) = X1 ++ ((X2 ++ Y1) ++ Y2) := by simp
    rw [e1, e2, List.filter_append, List.filter_append (p := eqv lt x) X1, List.filter_append (p := eqv lt x) (Y1 ++ X2), List.filter_append (p := eqv lt x) (X2 ++ Y1), filt_swap W hyx]
  · rcases List.mem_append.1 ha with ha | ha <;> rcases List.mem_append.1 hb with hb | hb
    · exact hX'.2.2 a ha b hb
    · exact hxy a ha b hb
    · exact W.asym _ _ (hyx b hb a ha)
    · exact hY'.2.2 a ha b hb
end
end Go.X
set_option linter.unusedVariables false
set_option linter.unusedSimpArgs false
namespace Go.X
open Go
theorem ltA_iff {a b : Ak} : ltA a b = true ↔ a.color < b.color ∨ a.color = b.color ∧ a.key < b.key := by simp [ltA]
theorem ltA_wo : WO ltA where
  irr a := by rw [Bool.eq_false_iff]; intro h; have := ltA_iff.1 h; omega
  asym a b h := by rw [Bool.eq_false_iff]; intro k; have := ltA_iff.1 h; have := ltA_iff.1 k; omega
  tr a b c h k := by
    rw [Bool.eq_false_iff] at h k ⊢
    intro z
    have z := ltA_iff.1 z
    have h : ¬ (b.color < a.color ∨ b.color = a.color ∧ b.key < a.key) := fun q => h (ltA_iff.2 q)
    have k : ¬ (c.color < b.color ∨ c.color = b.color ∧ c.key < b.key) := fun q => k (ltA_iff.2 q)
    omega
theorem insA_at (x : Ak) : ∀ {s : List Ak}, SortedL ltA s → ∃ S1 S2, s = S1 ++ S2 ∧ insA x s = S1 ++ x :: S2 ∧ (∀ a ∈ S1, ltA x a = false) ∧ ∀ b ∈ S2, ltA x b = true
  | [], _ => ⟨[], [], rfl, rfl, by simp, by simp⟩
  | y :: l, h => by
    have hl := List.pairwise_cons.1 h
    by_cases c : ltA x y = true
    · refine ⟨[], y :: l, rfl, by simp [insA, c], by simp, fun b hb => ?_⟩
      rcases List.mem_cons.1 hb with rfl | hb
      · exact c
      · cases z : ltA x b with
        | true => rfl
        | false =>
          have := ltA_wo.tr _ _ _ (hl.1 b hb) z
          rw [c] at this; cases this
    · obtain ⟨S1, S2, rfl, e, h1, h2⟩ := insA_at x hl.2
      refine ⟨y :: S1, S2, rfl, by simp [insA, c, e], fun a ha => ?_, h2⟩
      rcases List.mem_cons.1 ha with rfl | ha
      · simpa using c
      · exact h1 a ha
theorem sortA_from : ∀ (l : List Ak) {l0 s0 : List Ak}, Stab ltA l0 s0 → Stab ltA (l0 ++ l) (l.foldl (fun s x => insA x s) s0)
  | [], l0, s0, h => by simpa using h
  | x :: l, l0, s0, h => by
    have h1 : Stab ltA (l0 ++ [x]) (insA x s0) := by
      obtain ⟨S1, S2, rfl, e, h1, h2⟩ := insA_at x h.so
      rw [e]
      refine Stab.trans (fun y => ?_) (stab_ins ltA_wo h.so h1 h2)
      rw [List.filter_append, h.eq, List.filter_append]
    have := sortA_from l h1
    rw [List.append_assoc] at this
    exact this
theorem sortA_stab (l : List Ak) : Stab ltA l (sortA l) := by
  have := sortA_from l (l0 := []) (s0 := []) (Stab.refl List.Pairwise.nil)
  simpa [sortA] using this
theorem sortA_uniq {l s : List Ak} (h : Stab ltA l s) : s = sortA l := stab_uniq ltA_wo h (sortA_stab l)
theorem insA_perm (x : Ak) : ∀ s : List Ak, (insA x s).Perm (x :: s)
  | [] => List.Perm.refl _
  | y :: l => by
    unfold insA
    split
    · exact List.Perm.refl _
    · exact ((insA_perm x l).cons y).trans (List.Perm.swap x y l)
theorem sortA_permF : ∀ (l s0 : List Ak), (l.foldl (fun s x => insA x s) s0).Perm (s0 ++ l)
  | [], s0 => by simp
  | x :: l, s0 => by
    refine (sortA_permF l (insA x s0)).trans ?_
    refine ((insA_perm x s0).append_right l).trans ?_
    exact (List.perm_middle (a := x) (l₁ := s0) (l₂ := l)).symm
theorem sortA_perm (l : List Ak) : (sortA l).Perm l := by simpa [sortA] using sortA_permF l []
theorem grpA_flat : ∀ (l : List Ak) (out : List (Int × List Int)), (grpA out l).flatMap (·.2) = out.flatMap (·.2) ++ l.map (·.rank)
  | [], out => by simp [grpA]
  | a :: l, out => by
    unfold grpA
    cases h : out.getLast? with
    | none =>
      have : out = [] := List.getLast?_eq_none_iff.1 h
      subst this
      dsimp only
      rw [grpA_flat l]
      simp
    | some x =>
      obtain ⟨c, r⟩ := x
      obtain ⟨ys, rfl⟩ := List.getLast?_eq_some_iff.1 h
      dsimp only
      split
      · rw [grpA_flat l]
        simp [List.flatMap_append]
      · rw [grpA_flat l]
        simp [List.flatMap_append]
theorem asksC_sub : ∀ (g : List Int) (asks : List (Int × Int)), ((asksC g asks).map (·.rank)).Sublist g
  | [], _ => by simp [asksC]
  | x :: g, [] => by simp [asksC]
  | x :: g, y :: asks => by
    unfold asksC
    simp only [List.zip_cons_cons, List.map_cons]
    by_cases h : decide (0 ≤ y.1) = true
    · rw [List.filter_cons_of_pos (by simpa using h)]
      exact (asksC_sub g asks).cons_cons x
    · rw [List.filter_cons_of_neg (by simpa using h)]
      exact (asksC_sub g asks).cons x
def childK (key : Ky) (k : Int) : Ky := key ++ 46 :: Lib.itoa k
def subK (key : Ky) (k c : Int) : Ky := childK key k ++ 58 :: Lib.itoa c
def tellC (L : List Br) (key : Ky) (rank k : Int) (own : Pt) : Td :=
  let g := (grpC L key).getD []
  let mine := decide (g.getD own.root.toNat 0 = rank)
  if own.kind = 16 then { zTd with val := ((partC L key (g.getD own.root.toNat 0) k).getD zPt).val }
  else if own.kind = 17 then (if mine then { zTd with val := redC own.op (valsC L key g k) } else zTd)
  else if own.kind = 18 then { zTd with val := redC own.op (valsC L key g k) }
  else if own.kind = 19 then (if mine then { zTd with row := valsC L key g k } else zTd)
  else if own.kind = 20 then { zTd with gkey := childK key k, ranks := g, has := true }
  else if own.kind = 21 then (match (splitC g (askC L key g k)).find? (fun x => decide (rank ∈ x.2)) with | some (c, r) => { zTd with gkey := subK key k c, ranks := r, has := true } | none => zTd)
  else zTd
def toldC (loose : Bool) (L : List Br) (key : Ky) (rank k : Int) : Td × Bool :=
  if overC loose L key rank k then (match partC L key rank k with | some own => (tellC L key rank k own, true) | none => (zTd, false)) else (zTd, false)
end Go.X
set_option linter.unusedVariables false
set_option linter.unusedSimpArgs false
namespace Go.X
open Go
section
variable {L : List Br} {key : Ky} {k : Int}
theorem partC_mem {r : Int} {p : Pt} (h : partC L key r k = some p) : p ∈ partsC L key r ∧ 0 ≤ k := by
  unfold partC nthC at h
  split at h
  · exact ⟨List.mem_of_getElem? h, by assumption⟩
  · cases h
theorem CInv.own (hI : CInv L) {rank : Int} {p : Pt} (h : partC L key rank k = some p) : ∃ g, grpC L key = some g ∧ rank ∈ g ∧ mayPt g.length p = true := hI.part (partC_mem h).1
theorem mayPt_root {n : Nat} {p : Pt} (h : mayPt n p = true) : 0 ≤ p.root ∧ p.root < n ∧ 15 ≤ p.kind ∧ p.kind ≤ 21 ∧ (p.root = 0 ∨ rootedK p.kind = true) ∧ p.op ≤ 2 := by
  simp only [mayPt, Bool.and_eq_true, Bool.or_eq_true, decide_eq_true_eq] at h
  exact ⟨h.1.1.2.1, h.1.1.2.2, h.1.1.1.1, h.1.1.1.2, h.1.2, h.2.1⟩
inductive Wh where
  | root | none | all
def whoC (loose : Bool) (g : List Int) (rank : Int) (own : Pt) : Wh :=
  if loose && decide (own.kind = 16) then .root else if loose && (rootedK own.kind && decide (g.getD own.root.toNat 0 ≠ rank)) then .none else .all
theorem overC_eq (loose : Bool) {rank : Int} {own : Pt} {g : List Int} (ho : partC L key rank k = some own) (hg : grpC L key = some g) :
    overC loose L key rank k = match whoC loose g rank own with | .root => fitO L key k own (g.getD own.root.toNat 0) | .none => true | .all => g.all (fitO L key k own) := by
  unfold overC whoC
  rw [ho, hg]
  simp only [Option.getD_some]
  split
  · rfl
  · split <;> rfl
theorem overC_none {loose : Bool} {rank : Int} (ho : partC L key rank k = none) : overC loose L key rank k = false := by
  unfold overC; rw [ho]
theorem overC_own {loose : Bool} {rank : Int} (h : overC loose L key rank k = true) : ∃ own, partC L key rank k = some own := by
  cases ho : partC L key rank k with
  | none => rw [overC_none ho] at h; cases h
  | some own => exact ⟨own, rfl⟩
end
end Go.X
set_option linter.unusedVariables false
set_option linter.unusedSimpArgs false
namespace Go.X
open Go
def presC (L : List Br) (key : Ky) (g : List Int) (k : Int) : List Pt := g.filterMap fun r => partC L key r k
def fitAll : List Pt → Bool
  | [] => true
  | f :: r => r.all (fitPt f)
def oddK (L : List Br) (key : Ky) (k : Int) : Bool := !fitAll (presC L key ((grpC L key).getD []) k)
def keysOf (L : List Br) : List Ky := L.foldl (fun s b => if b.key ∈ s then s else s ++ [b.key]) []
def leK (x y : Ky) : Bool := decide (x ≤ y)
def keysC (L : List Br) : List Ky := (keysOf L).mergeSort leK
def oddC (L : List Br) : List Ky := (keysC L).flatMap fun key => ((List.range L.length).filter fun k : Nat => oddK L key k).map fun k : Nat => childK key k
theorem snoc_of {α : Type} {L : List α} (h : L ≠ []) : ∃ l b, L = l ++ [b] := ⟨L.dropLast, L.getLast h, (List.dropLast_concat_getLast h).symm⟩
theorem keysOf_snoc (L : List Br) (b : Br) : keysOf (L ++ [b]) = if b.key ∈ keysOf L then keysOf L else keysOf L ++ [b.key] := by
  unfold keysOf
  rw [List.foldl_append]
  rfl
theorem keysOf_mem : ∀ {L : List Br} {k : Ky}, k ∈ keysOf L ↔ ∃ b ∈ L, b.key = k := by
  intro L
  induction hn : L.length generalizing L with
  | zero => intro k; have : L = [] := List.eq_nil_of_length_eq_zero hn; subst this; simp [keysOf]
  | succ n ih =>
    intro k
    obtain ⟨l, b, rfl⟩ := snoc_of (L := L) (by intro q; rw [q] at hn; simp at hn)
    have ih := @ih l (by simpa using hn)
    rw [keysOf_snoc]
    by_cases h : b.key ∈ keysOf l
    · rw [if_pos h, ih]
      constructor
      · rintro ⟨x, hx, rfl⟩; exact ⟨x, by simp [hx], rfl⟩
      · rintro ⟨x, hx, rfl⟩
        rcases List.mem_append.1 hx with z | z
        · exact ⟨x, z, rfl⟩
        · rw [List.mem_singleton.1 z]; exact ih.1 h
    · rw [if_neg h]
      simp only [List.mem_append, List.mem_singleton, ih]
      constructor
      · rintro (⟨x, hx, rfl⟩ | rfl)
        · exact ⟨x, .inl hx, rfl⟩
        · exact ⟨b, .inr rfl, rfl⟩
      · rintro ⟨x, hx | rfl, rfl⟩
        · exact .inl ⟨x, hx, rfl⟩
        · exact .inr rfl
theorem keysOf_nodup (L : List Br) : (keysOf L).Nodup := by
  induction hn : L.length generalizing L with
  | zero => have : L = [] := List.eq_nil_of_length_eq_zero hn; subst this; simp [keysOf]
  | succ n ih =>
    obtain ⟨l, b, rfl⟩ := snoc_of (L := L) (by intro q; rw [q] at hn; simp at hn)
    have ih := @ih l (by simpa using hn)
    rw [keysOf_snoc]
    split
    · exact ih
    · rename_i h
      rw [List.nodup_append]
      refine ⟨ih, by simp, fun a ha b' hb q => ?_⟩
      rw [List.mem_singleton.1 hb] at q
      exact h (q ▸ ha)
def worldL (n : Nat) : List Int := (List.range n).map fun i : Nat => (i : Int)
theorem worldL_len (n : Nat) : (worldL n).length = n := by simp [worldL]
theorem worldL_mem {n : Nat} {x : Int} : x ∈ worldL n ↔ 0 ≤ x ∧ x < n := by
  simp only [worldL, List.mem_map, List.mem_range]
  constructor
  · rintro ⟨i, hi, rfl⟩; omega
  · rintro ⟨h0, h1⟩; exact ⟨x.toNat, by omega, by omega⟩
theorem worldL_at {n i : Nat} (h : i < n) : (worldL n)[i]? = some (i : Int) := by simp [worldL, h]
theorem worldL_nodup (n : Nat) : (worldL n).Nodup := by
  unfold worldL
  rw [List.nodup_iff_pairwise_ne, List.pairwise_map]
  exact (List.nodup_range (n := n)).imp fun h q => h (by omega)
theorem worldL_may {n : Nat} (h : 1 ≤ n) (h2 : n ≤ 64) : mayG (worldL n) = true := by
  refine mayG_iff.2 ⟨by rw [worldL_len]; omega, fun x hx => ?_, worldL_nodup n⟩
  have := worldL_mem.1 hx
  omega
structure Wd (n : Nat) (L : List Br) : Prop where
  all : ∀ b ∈ L, b.key = [] ∧ b.ranks = worldL n
theorem Wd.nil (n : Nat) : Wd n [] := ⟨fun b hb => by cases hb⟩
theorem Wd.grp {n : Nat} {L : List Br} (h : Wd n L) (hn : L ≠ []) : grpC L [] = some (worldL n) := by
  cases L with
  | nil => exact absurd rfl hn
  | cons b l =>
    obtain ⟨h1, h2⟩ := h.all b (by simp)
    unfold grpC
    rw [List.find?_cons_of_pos (by simp [h1])]
    simp [h2]
theorem Wd.same {n : Nat} {L : List Br} (h : Wd n L) : sameG L [] (worldL n) = true := by
  unfold sameG
  by_cases hn : L = []
  · subst hn; rfl
  · rw [h.grp hn]; simp
theorem Wd.ok {n : Nat} {L : List Br} (h : Wd n L) (h1 : 1 ≤ n) (h2 : n ≤ 64) {r : Int} (hr : r ∈ worldL n) {p : Pt} (hp : mayPt n p = true) : okC L ⟨[], worldL n, r, p⟩ = true := by
  unfold okC
  simp only [worldL_may h1 h2, hr, decide_true, h.same, worldL_len, hp, Bool.and_self]
theorem Wd.bring {n : Nat} {L : List Br} (h : Wd n L) (h1 : 1 ≤ n) (h2 : n ≤ 64) {r : Int} (hr : r ∈ worldL n) {p : Pt} (hp : mayPt n p = true) :
    bringC L ⟨[], worldL n, r, p⟩ = (L ++ [⟨[], worldL n, r, p⟩], ((partsC L [] r).length : Int), 0) := by
  unfold bringC
  rw [if_pos (h.ok h1 h2 hr hp)]
theorem Wd.snoc {n : Nat} {L : List Br} (h : Wd n L) (r : Int) (p : Pt) : Wd n (L ++ [⟨[], worldL n, r, p⟩]) := by
  refine ⟨fun b hb => ?_⟩
  rcases List.mem_append.1 hb with z | z
  · exact h.all b z
  · rw [List.mem_singleton.1 z]; exact ⟨rfl, rfl⟩
theorem Wd.keys {n : Nat} {L : List Br} (h : Wd n L) : keysC L = if L = [] then [] else [[]] := by
  by_cases hn : L = []
  · subst hn; simp [keysC, keysOf]
  · rw [if_neg hn]
    have hk : keysOf L = [[]] := by
      have hnd := keysOf_nodup L
      have hm : ∀ x ∈ keysOf L, x = [] := fun x hx => by
        obtain ⟨b, hb, rfl⟩ := keysOf_mem.1 hx
        exact (h.all b hb).1
      have h0 : ([] : Ky) ∈ keysOf L := by
        cases L with
        | nil => exact absurd rfl hn
        | cons b l => exact keysOf_mem.2 ⟨b, by simp, (h.all b (by simp)).1⟩
      generalize keysOf L = ks at *
      match ks with
      | [] => simp at h0
      | [x] => rw [hm x (by simp)]
      | x :: y :: r =>
        have e1 := hm x (by simp)
        have e2 := hm y (by simp)
        subst e1 e2
        simp at hnd
    unfold keysC
    rw [hk]
    simp
end Go.X
set_option linter.unusedVariables false
set_option linter.unusedSimpArgs false
namespace Go.X
open Go
section
variable {parts : List Pt} {lacks : Int}
end
structure FullL (parts : List Pt) (L : List Br) : Prop where
  wd : Wd parts.length L
  len : L.length = parts.length
  inv : CInv L
  pt : ∀ i : Nat, i < parts.length → partsC L [] (i : Int) = [parts.getD i zPt]
theorem FullL.alike {parts : List Pt} {A B : List Br} (hn : 1 ≤ parts.length) (hA : FullL parts A) (hB : FullL parts B) : grpC A [] = grpC B [] ∧ ∀ x : Int, partsC A [] x = partsC B [] x := by
  have nA : A ≠ [] := fun q => by have := hA.len; rw [q] at this; simp at this; omega
  have nB : B ≠ [] := fun q => by have := hB.len; rw [q] at this; simp at this; omega
  refine ⟨by rw [hA.wd.grp nA, hB.wd.grp nB], fun x => ?_⟩
  by_cases hx : x ∈ worldL parts.length
  · obtain ⟨q1, q2⟩ := worldL_mem.1 hx
    have a := hA.pt x.toNat (by omega)
    have b := hB.pt x.toNat (by omega)
    rw [show ((x.toNat : Nat) : Int) = x by omega] at a b
    rw [a, b]
  · rw [hA.inv.other (hA.wd.grp nA) hx, hB.inv.other (hB.wd.grp nB) hx]
theorem FullL.same {parts : List Pt} {A B : List Br} (hn : 1 ≤ parts.length) (hA : FullL parts A) (hB : FullL parts B) (loose : Bool) (r k : Int) : toldC loose A [] r k = toldC loose B [] r k := by
  obtain ⟨h1, h2⟩ := hA.alike hn hB
  have hp : ∀ x, partC A [] x k = partC B [] x k := fun x => by unfold partC; rw [h2]
  have hv : ∀ g, valsC A [] g k = valsC B [] g k := fun g => by unfold valsC; simp only [hp]
  have ha : ∀ g, askC A [] g k = askC B [] g k := fun g => by unfold askC; simp only [hp]
  have hf : ∀ own, fitO A [] k own = fitO B [] k own := fun own => funext fun r => by unfold fitO; rw [hp]
  have ho : overC loose A [] r k = overC loose B [] r k := by unfold overC; simp only [hp, hf, h1]
  have ht : ∀ own, tellC A [] r k own = tellC B [] r k own := fun own => by unfold tellC; simp only [hp, hv, ha, h1]
  unfold toldC
  simp only [ho, hp, ht]
end Go.X
set_option linter.unusedVariables false
set_option linter.unusedSimpArgs false
set_option maxRecDepth 4000
namespace Go.X
open Go Go.RowKit
def grpV (key : Ky) (rv : Value) : Value := .agg #[strV key, rv]
theorem idxOf_at : ∀ {r : List Int} {n : Nat} {x : Int}, r[n]? = some x → (∀ a ∈ r.take n, a ≠ x) → r.idxOf x = n
  | [], n, x, h, _ => by simp at h
  | a :: r, 0, x, h, _ => by
    obtain rfl : a = x := by simpa using h
    simp
  | a :: r, n + 1, x, h, hno => by
    have h1 : a ≠ x := hno a (by simp)
    have h2 : r[n]? = some x := by simpa using h
    have ih := idxOf_at h2 fun b hb => hno b (by simp [hb])
    rw [List.idxOf_cons]
    have : (a == x) = false := by simpa using h1
    simp [this, ih]
def metL (p : List Int) : List Value := (List.range 64).map fun i : Nat => .int .i64 (if (i : Int) ∈ p then 1 else 0)
theorem metL_len (p : List Int) : (metL p).length = 64 := by simp [metL]
theorem metL_at (p : List Int) {x : Int} (h0 : 0 ≤ x) (h1 : x ≤ 63) : (metL p)[x.toNat]? = some (.int .i64 (if x ∈ p then 1 else 0)) := by
  unfold metL
  rw [List.getElem?_map, List.getElem?_range (by omega)]
  simp only [Option.map_some]
  rw [show ((x.toNat : Nat) : Int) = x by omega]
theorem metL_set (p : List Int) {x : Int} (h0 : 0 ≤ x) (h1 : x ≤ 63) : (metL p).set x.toNat (.int .i64 1) = metL (p ++ [x]) := by
  apply List.ext_getElem?
  intro i
  unfold metL
  rw [List.getElem?_set]
  simp only [List.length_map, List.length_range, List.getElem?_map]
  by_cases hi : i < 64
  · rw [List.getElem?_range hi]
    by_cases e : x.toNat = i
    · subst e
      rw [if_pos rfl, if_pos hi]
      simp only [Option.map_some]
      rw [show ((x.toNat : Nat) : Int) = x by omega]
      simp
    · rw [if_neg e]
      have : (i : Int) ≠ x := by omega
      simp [this]
  · rw [if_neg (by omega), List.getElem?_eq_none (by simp; omega)]
    rfl
def RR (w : World) (v : Value) (r : List Int) : Prop := reads w 1 v r.length (ints r)
theorem RR.mod {S : Nat → Prop} {w w' : World} {v : Value} {r : List Int} (h : RR w v r) (hm : Mod S w w') (hS : ∀ k, k < w.heap.size → sb v k → ¬ S k) : RR w' v r := reads_mod h hm fun k hk z => hS k hk z
theorem RR.calm {w w' : World} {v : Value} {r : List Int} (h : RR w v r) (hm : Mod none_ w w') : RR w' v r := h.mod hm fun _ _ _ => id
end Go.X
namespace Go.Proofs.YtandbmnhghmcgaaDoor.Col
open Go Go.X Go.RowKit Go.Proofs.YtandbmnhghmcgaaDoor.XF Go.Proofs.YtandbmnhghmcgaaDoor.XK
abbrev tI : TypeId := 3
abbrev tIs : TypeId := 30
abbrev tG : TypeId := 32
theorem ixR {w : World} {v : Value} {l : List Int} {i : Nat} {m : Int} (h : RR w v l) (hi : l[i]? = some m) : ∃ a, (∀ w', (Instr.indexAt tIs v (.int .i64 (i : Int))).run Tryd.prog w' = .ok (.pointer (some a)) w') ∧ ∀ w', Mod none_ w w' → (Instr.loadAt tI (.pointer (some a))).run Tryd.prog w' = .ok (.int .i64 m) w' := by
  have hil := (List.getElem?_eq_some_iff.1 hi).1
  obtain ⟨_, A, c, es, hnc, hr⟩ := id h
  obtain ⟨a, ha, _⟩ := hr i _ (ints_get hi)
  subst es ha
  refine ⟨a.add i, fun w' => ?_, fun w' hw => ?_⟩
  · rw [run_ixa (sz := 0) vIs (by kernel_rfl) (by omega) (by omega) w']
    congr 4
    omega
  · obtain ⟨_, A, c, es, _, hc⟩ := h.calm hw
    cases es
    obtain ⟨b, hb, hcell⟩ := hc i _ (ints_get hi)
    cases hb
    exact run_ld1 vI rfl hcell
theorem Index_ok {w : World} {v : Value} {r : List Int} (h : RR w v r) (hl : r.length ≤ 1000000) (x : Int) : Rt Tryd.prog 61 #[v, .int .i64 x] w fun u w' => u = .int .i64 (if x ∈ r then (r.idxOf x : Int) else -1) ∧ w' = w := by
  obtain ⟨A, c, hs, _⟩ := reads_cap h
  refine slices_Index_int_int_calls ?_
  unfold slices_Index_int_int_F
  rw [hs, len_sl vIs, ← hs]
  refine W_loop slices_Index_int_int_L0_ok (fun ρ w' => ∃ n : Nat, n ≤ r.length ∧ ρ 8 = .int .i64 n ∧ ρ 7 = .int .i64 r.length ∧ ρ 0 = v ∧ ρ 1 = .int .i64 x ∧ (∀ a ∈ r.take n, a ≠ x) ∧ w' = w) (fun ρ _ => r.length - (intOf (ρ 8)).toNat)
    ⟨0, Nat.zero_le _, rfl, rfl, rfl, rfl, by simp, rfl⟩ ?_
  rintro ρ w1 ⟨n, hn, h8, h7, h0, h1, hno, rfl⟩
  rw [slices_Index_int_int_L0_eq]; unfold slices_Index_int_int_L0_F
  rw [h8, h7, h0, h1, BK_lss]
  by_cases hlt : n < r.length
  · rw [decide_eq_true (by omega)]
    refine condT ?_
    have hx : r[n]? = some r[n] := List.getElem?_eq_getElem hlt
    obtain ⟨a, hia, hla⟩ := ixR h hx
    refine VK_of (hia _) (VK_of (hla _ (Mod.refl _ _)) ?_)
    rw [BK_eql]
    refine caseC (fun q => ?_) (fun q => ?_)
    · refine ⟨?_, rfl⟩
      have hxe : x = r[n] := by simpa using q
      rw [if_pos (by rw [hxe]; exact List.getElem_mem hlt), idxOf_at (hxe ▸ hx) hno]
      rfl
    · rw [BK_add, wrap_i (by omega) (by omega)]
      refine ⟨⟨n + 1, hlt, rfl, h7, h0, h1, ?_, rfl⟩, ?_⟩
      · rw [List.take_add_one, hx, Option.toList_some]
        intro b z
        rcases List.mem_append.1 z with z | z
        · exact hno b z
        · rw [List.mem_singleton.1 z]; intro y; rw [y] at q; simp at q
      · simp only [sq_n, sq_x, sq_r, bk_n, bk_r, bk_x, rt_r, rt_n, rs_0, rs_t, pk_1, pk_2, up_at, reduceIte, Nat.reduceEqDiff, intOf]; omega
  · obtain rfl : n = r.length := by omega
    rw [decide_eq_false (by omega)]
    refine condF ?_
    rw [sq_x, bk_x, sq_n, slices_Index_int_int_R1_eq]; unfold slices_Index_int_int_R1_F
    refine ⟨?_, rfl⟩
    rw [List.take_length] at hno
    rw [if_neg fun z => hno x z rfl]
    rfl
theorem fG0 {w : World} {b : Nat} {key : Ky} {rv : Value} (h : w.heap[b]? = some (.cells #[strV key, rv] tG (0, 0))) : FO Tryd.prog w tG 0 0 ⟨b, 0, none⟩ 9 (strV key) := FO.blk h (by kernel_rfl) vS rfl rfl
theorem fG1 {w : World} {b : Nat} {key : Ky} {rv : Value} (h : w.heap[b]? = some (.cells #[strV key, rv] tG (0, 0))) : FO Tryd.prog w tG 1 1 ⟨b, 0, none⟩ tIs rv := FO.blk h (by kernel_rfl) vIs rfl rfl
def numI (r : List Int) (x : Int) : Int := if x ∈ r then (r.idxOf x : Int) else 0
theorem Number_ok {w : World} {key : Ky} {rv : Value} {r : List Int} (h : RR w rv r) (hl : r.length ≤ 1000000) (x : Int) : Rt Tryd.prog 35 #[grpV key rv, .int .i64 x] w fun u w' => u = .tuple #[.int .i64 (numI r x), .bool (decide (x ∈ r))] ∧ Mod none_ w w' := by
  refine group_Number_calls ?_
  unfold group_Number_F
  refine box_k (cs := #[strV key, rv]) rfl fun w1 hb1 hm1 hz1 => ?_
  simp only [↓(fG1 hb1).e]
  refine CK_st Tryd.func61 rfl rfl (Index_ok (h.calm hm1) hl x) ?_
  rintro _ w2 ⟨rfl, rfl⟩
  rw [max_i, BK_geq]
  refine ⟨?_, hm1⟩
  unfold numI
  by_cases hx : x ∈ r
  · rw [if_pos hx, if_pos hx, if_neg (by omega), decide_eq_true (by omega), decide_eq_true hx]
  · rw [if_neg hx, if_neg hx, if_pos (by omega), decide_eq_false (by omega), decide_eq_false hx]
theorem EqualI_ok {w : World} {v u : Value} {a b : List Int} (ha : RR w v a) (hb : RR w u b) (hl : a.length ≤ 1000000) : Rt Tryd.prog 62 #[v, u] w fun x w' => x = .bool (decide (a = b)) ∧ Mod none_ w w' := by
  refine slices_Equal_int_int_calls ?_
  unfold slices_Equal_int_int_F
  obtain ⟨A, c, es, _⟩ := reads_cap ha
  obtain ⟨A2, c2, es2, _⟩ := reads_cap hb
  rw [es, len_sl vIs, ← es, es2, len_sl vIs, ← es2, BK_neq]
  by_cases hlen : a.length = b.length
  · rw [show ((a.length : Int) != (b.length : Int)) = false by rw [hlen]; simp]
    refine condF ?_
    rw [es, len_sl vIs, ← es]
    refine W_loop slices_Equal_int_int_L0_ok (fun ρ w' => ∃ i : Nat, i ≤ a.length ∧ ρ 13 = .int .i64 i ∧ ρ 12 = .int .i64 a.length ∧ ρ 0 = v ∧ ρ 1 = u ∧ a.take i = b.take i ∧ Mod none_ w w') (fun ρ _ => a.length - (intOf (ρ 13)).toNat)
      ⟨0, Nat.zero_le _, rfl, rfl, rfl, rfl, by simp, Mod.refl _ _⟩ ?_
    rintro ρ w1 ⟨i, hi, e5, e12, e0, e1, heq, hm⟩
    rw [slices_Equal_int_int_L0_eq]; unfold slices_Equal_int_int_L0_F
    rw [e5, e12, BK_lss]
    by_cases hlt : i < a.length
    · rw [decide_eq_true (by omega)]
      refine condT ?_
      have hx : a[i]? = some a[i] := List.getElem?_eq_getElem hlt
      have hy : b[i]? = some b[i] := List.getElem?_eq_getElem (by omega)
      have ta : a.take (i + 1) = a.take i ++ [a[i]] := by rw [List.take_add_one, hx]; rfl
      have tb : b.take (i + 1) = b.take i ++ [b[i]] := by rw [List.take_add_one, hy]; rfl
      generalize a[i] = x at *
      generalize b[i] = y at *
      obtain ⟨p1, r1, l1⟩ := ixR ha hx
      obtain ⟨p2, r2, l2⟩ := ixR hb hy
      refine slices_Equal_int_int_R2_quiet (D := []) (fun w' => Mod none_ w w') (hm.trans ((Mod.refl _ w1).drawn _)) ?_
      have key : ∀ (ρ' : Sl) (K : Exit → Sl → World → Prop), ρ' 0 = v → ρ' 1 = u → ρ' 5 = .int .i64 i → ρ' 13 = .int .i64 i → ρ' 12 = .int .i64 a.length →
          (∀ (ρ2 : Sl) (w' : World), ρ2 0 = v → ρ2 1 = u → ρ2 13 = .int .i64 i → ρ2 12 = .int .i64 a.length → ρ2 24 = .bool (x != y) → Mod none_ w w' → K .normal ρ2 w') → slices_Equal_int_int_R2_Q (fun w' => Mod none_ w w') K ρ' := by
        intro ρ' K q0 q1 q5 q13 q12 hK
        unfold slices_Equal_int_int_R2_Q
        rw [q0, q1, q5]
        refine QV_of (fun w' _ => r1 w') (QV_of (fun w' hw => l1 w' hw) (QV_of (fun w' _ => r2 w') (QV_of (fun w' hw => l2 w' hw) ?_)))
        refine Qneq ?_
        intro w' hw
        exact hK _ w' q0 q1 q13 q12 rfl hw
      refine key _ _ (by first | exact e0 | rfl) (by first | exact e1 | rfl) (by first | rfl | exact e5) (by first | exact e5 | rfl) (by first | exact e12 | rfl) ?_
      intro ρ2 w' q0 q1 q13 q12 q24 hw
      rw [sq_n, slices_Equal_int_int_R3_eq]; unfold slices_Equal_int_int_R3_F
      rw [q24]
      refine caseC (fun q => ?_) (fun q => ?_)
      · refine ⟨?_, hw⟩
        rw [decide_eq_false]
        · rfl
        · intro z
          rw [z, hy] at hx
          have : x ≠ y := by simpa using q
          exact this (Option.some.inj hx).symm
      · have hxy : x = y := by simpa using q
        rw [bk_n, sq_n, slices_Equal_int_int_R4_eq]; unfold slices_Equal_int_int_R4_F
        rw [q13, BK_add, wrap_i (by omega) (by omega)]
        refine ⟨⟨i + 1, hlt, rfl, q12, q0, q1, by rw [ta, tb, heq, hxy], hw⟩, ?_⟩
        simp only [sq_n, sq_x, sq_r, bk_n, bk_r, bk_x, rt_r, rt_n, rs_0, rs_t, pk_1, pk_2, up_at, reduceIte, Nat.reduceEqDiff, intOf]; omega
    · obtain rfl : i = a.length := by omega
      rw [decide_eq_false (by omega)]
      refine condF ?_
      rw [sq_x, bk_x, sq_n, slices_Equal_int_int_R1_eq]; unfold slices_Equal_int_int_R1_F
      refine ⟨?_, hm⟩
      rw [List.take_length, hlen, List.take_length] at heq
      rw [decide_eq_true heq]; rfl
  · rw [show ((a.length : Int) != (b.length : Int)) = true by rw [bne_iff_ne]; omega]
    refine condT ⟨?_, Mod.refl _ _⟩
    rw [decide_eq_false fun z => hlen (by rw [z])]
theorem Same_ok {w : World} {k1 k2 : Ky} {v u : Value} {a b : List Int} (ha : RR w v a) (hb : RR w u b) (hl : a.length ≤ 1000000) : Rt Tryd.prog 37 #[grpV k1 v, grpV k2 u] w fun x w' => x = .bool (decide (k1 = k2) && decide (a = b)) ∧ Mod none_ w w' := by
  refine group_Same_calls ?_
  unfold group_Same_F
  refine box_k (cs := #[strV k1, v]) rfl fun w1 hb1 hm1 hz1 => ?_
  refine box_k (cs := #[strV k2, u]) rfl fun w2 hb2 hm2 hz2 => ?_
  have hb1' := hm2.blk hb1 id
  have hm := hm1.trans hm2
  simp only [↓(fG0 hb1').e, ↓(fG0 hb2).e]
  by_cases hk : k1 = k2
  · unfold strV
    rw [SEQt (by rw [hk])]
    simp only [↓VG_u, ↓UG_u, ↓MG_u, ↓NG_u, ↓PG_u, ↓BG_u, ↓CG_u, ↓IG_u, ↓VGtt, ↓VGtf, ↓VGft, ↓VGff, ↓UGtt, ↓UGtf, ↓UGft, ↓UGff, ↓MGtt, ↓MGtf, ↓MGft, ↓MGff, ↓NGtt, ↓NGtf, ↓NGft, ↓NGff, ↓PGtt, ↓PGtf, ↓PGft, ↓PGff, ↓BGtt, ↓BGtf, ↓BGft, ↓BGff, ↓CGtt, ↓CGtf, ↓CGft, ↓CGff, ↓IGtt, ↓IGtf, ↓IGft, ↓IGff, ↓PKt, ↓PKf, ↓CDt, ↓CDf, ↓NOTt, ↓NOTf, ↓NK_ptr, ↓(fG1 hb1').e, ↓(fG1 hb2).e]
    refine CK_st Tryd.func62 rfl rfl (EqualI_ok (ha.calm hm) (hb.calm hm) hl) ?_
    rintro _ w3 ⟨rfl, hm3⟩
    rw [decide_eq_true hk, Bool.true_and]
    exact ⟨rfl, hm.trans hm3⟩
  · unfold strV
    rw [SEQf (fun q => hk (by simpa using congrArg (fun b : ByteArray => b.data.toList) q))]
    simp only [↓VG_u, ↓UG_u, ↓MG_u, ↓NG_u, ↓PG_u, ↓BG_u, ↓CG_u, ↓IG_u, ↓VGtt, ↓VGtf, ↓VGft, ↓VGff, ↓UGtt, ↓UGtf, ↓UGft, ↓UGff, ↓MGtt, ↓MGtf, ↓MGft, ↓MGff, ↓NGtt, ↓NGtf, ↓NGft, ↓NGff, ↓PGtt, ↓PGtf, ↓PGft, ↓PGff, ↓BGtt, ↓BGtf, ↓BGft, ↓BGff, ↓CGtt, ↓CGtf, ↓CGft, ↓CGff, ↓IGtt, ↓IGtf, ↓IGft, ↓IGff, ↓PKt, ↓PKf, ↓CDt, ↓CDf, ↓NOTt, ↓NOTf, ↓NK_ptr]
    rw [decide_eq_false hk, Bool.false_and]
    exact ⟨rfl, hm⟩
theorem eIs : elemOk Tryd.prog tIs tI 1 8 = true := by kernel_rfl
theorem iI : (Tryd.prog.info? tI).map (·.size) = some 1 := by kernel_rfl
theorem ints_one (l : List Int) : ∀ u ∈ ints l, u.oneCell' = true := by
  intro u hu
  obtain ⟨x, _, rfl⟩ := List.mem_map.1 hu
  rfl
theorem BK_sln {t e : TypeId} (h : Tryd.prog.underlying t = some (.slice e)) {w : World} {K : Value → World → Prop} {x y : Operand} (a : Option Addr) (n c : Nat) : BK Tryd.prog .eql t x y (.slice a n c) (.slice none 0 0) w K = K (.bool a.isNone) w :=
  BK_of rfl (Lib.run_eql_slice_nil w t e a n c 0 0 h)
theorem CloneI_ok {w : World} {v : Value} {l : List Int} (h : RR w v l) (hn : l.length ≤ 1000000) : Rt Tryd.prog 38 #[v] w fun v' w' => w'.ownsRow w.heap.size tI 1 v' l.length (ints l) ∧ Mod none_ w w' := by
  refine slices_Clone_int_int_calls ?_
  unfold slices_Clone_int_int_F
  have h' := h
  obtain ⟨hl, A, c, rfl, hnc, hr⟩ := h
  rw [BK_sln vIs]
  cases A with
  | none =>
    refine condT ⟨?_, Mod.refl _ _⟩
    have h0 : l = [] := by
      cases l with
      | nil => rfl
      | cons a l =>
        obtain ⟨b, hb, _⟩ := hr 0 (.int .i64 a) rfl
        cases hb
    subst h0
    exact World.ownsRow_nil _ _ _ _
  | some a =>
    refine condF ?_
    refine bs0_k vIs iI fun w1 hb1 hm1 hz1 => ?_
    have hown : w1.ownsRow w.heap.size tI 1 (.slice (some ⟨w.heap.size, 0, none⟩) 0 0) 0 [] := owns_zero hb1 (Nat.le_refl _)
    refine ap_any eIs hown (h'.calm hm1) (ints_one l) (by unfold maxLen; omega) (by omega) (by omega) fun v' w' h2 hm2 _ => ?_
    refine ⟨by simpa using h2, hm1.then hm2 fun i hi q => ?_⟩
    have : i = w.heap.size := by simpa [Value.ownBlock] using q
    omega
end Go.Proofs.YtandbmnhghmcgaaDoor.Col
