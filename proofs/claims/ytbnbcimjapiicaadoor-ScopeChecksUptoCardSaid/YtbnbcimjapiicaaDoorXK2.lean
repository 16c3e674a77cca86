/- Printed by wip/x/gen.py (a program of this repo's own): small facts of this program's types. -/
import Derived.Test.YtbnbcimjapiicaaDoorProg
import Derived.Test.YtbnbcimjapiicaaDoorXK
set_option linter.unusedVariables false
namespace Go.Proofs.YtbnbcimjapiicaaDoor.XK
open Go Go.X

theorem fo30_0 {w : World} {K : Value → World → Prop} (a : Addr) : VK Tryd.prog (Instr.fieldAt 30 (.pointer (some a)) 0) w K = K (.pointer (some (a.add 0))) w := fo (by kernel_rfl) a
theorem fo37_0 {w : World} {K : Value → World → Prop} (a : Addr) : VK Tryd.prog (Instr.fieldAt 37 (.pointer (some a)) 0) w K = K (.pointer (some (a.add 0))) w := fo (by kernel_rfl) a
theorem fo37_2 {w : World} {K : Value → World → Prop} (a : Addr) : VK Tryd.prog (Instr.fieldAt 37 (.pointer (some a)) 2) w K = K (.pointer (some (a.add 2))) w := fo (by kernel_rfl) a
theorem fo37_3 {w : World} {K : Value → World → Prop} (a : Addr) : VK Tryd.prog (Instr.fieldAt 37 (.pointer (some a)) 3) w K = K (.pointer (some (a.add 3))) w := fo (by kernel_rfl) a
theorem fo40_2 {w : World} {K : Value → World → Prop} (a : Addr) : VK Tryd.prog (Instr.fieldAt 40 (.pointer (some a)) 2) w K = K (.pointer (some (a.add 2))) w := fo (by kernel_rfl) a
theorem fo40_3 {w : World} {K : Value → World → Prop} (a : Addr) : VK Tryd.prog (Instr.fieldAt 40 (.pointer (some a)) 3) w K = K (.pointer (some (a.add 3))) w := fo (by kernel_rfl) a
theorem fo60_4 {w : World} {K : Value → World → Prop} (a : Addr) : VK Tryd.prog (Instr.fieldAt 60 (.pointer (some a)) 4) w K = K (.pointer (some (a.add 4))) w := fo (by kernel_rfl) a
theorem fo60_5 {w : World} {K : Value → World → Prop} (a : Addr) : VK Tryd.prog (Instr.fieldAt 60 (.pointer (some a)) 5) w K = K (.pointer (some (a.add 5))) w := fo (by kernel_rfl) a
theorem fo62_8 {w : World} {K : Value → World → Prop} (a : Addr) : VK Tryd.prog (Instr.fieldAt 62 (.pointer (some a)) 8) w K = K (.pointer (some (a.add 8))) w := fo (by kernel_rfl) a
theorem fo62_9 {w : World} {K : Value → World → Prop} (a : Addr) : VK Tryd.prog (Instr.fieldAt 62 (.pointer (some a)) 9) w K = K (.pointer (some (a.add 9))) w := fo (by kernel_rfl) a
theorem fo71_0 {w : World} {K : Value → World → Prop} (a : Addr) : VK Tryd.prog (Instr.fieldAt 71 (.pointer (some a)) 0) w K = K (.pointer (some (a.add 0))) w := fo (by kernel_rfl) a
theorem fo71_1 {w : World} {K : Value → World → Prop} (a : Addr) : VK Tryd.prog (Instr.fieldAt 71 (.pointer (some a)) 1) w K = K (.pointer (some (a.add 1))) w := fo (by kernel_rfl) a
theorem fo71_2 {w : World} {K : Value → World → Prop} (a : Addr) : VK Tryd.prog (Instr.fieldAt 71 (.pointer (some a)) 2) w K = K (.pointer (some (a.add 2))) w := fo (by kernel_rfl) a
theorem fo71_3 {w : World} {K : Value → World → Prop} (a : Addr) : VK Tryd.prog (Instr.fieldAt 71 (.pointer (some a)) 3) w K = K (.pointer (some (a.add 3))) w := fo (by kernel_rfl) a
theorem fo71_4 {w : World} {K : Value → World → Prop} (a : Addr) : VK Tryd.prog (Instr.fieldAt 71 (.pointer (some a)) 4) w K = K (.pointer (some (a.add 4))) w := fo (by kernel_rfl) a
theorem ld28 {w : World} {K : Value → World → Prop} (a : Addr) : VK Tryd.prog (Instr.loadAt 28 (.pointer (some a))) w K = ldK (w.cell? a) (ldStuck Tryd.prog 28 a K w) K w := ldE Tryd.underlying28 rfl a
theorem ld32 {w : World} {K : Value → World → Prop} (a : Addr) : VK Tryd.prog (Instr.loadAt 32 (.pointer (some a))) w K = ldK (w.cell? a) (ldStuck Tryd.prog 32 a K w) K w := ldE Tryd.underlying32 rfl a
theorem ld50 {w : World} {K : Value → World → Prop} (a : Addr) : VK Tryd.prog (Instr.loadAt 50 (.pointer (some a))) w K = ldK (w.cell? a) (ldStuck Tryd.prog 50 a K w) K w := ldE Tryd.underlying50 rfl a
theorem ld52 {w : World} {K : Value → World → Prop} (a : Addr) : VK Tryd.prog (Instr.loadAt 52 (.pointer (some a))) w K = ldK (w.cell? a) (ldStuck Tryd.prog 52 a K w) K w := ldE Tryd.underlying52 rfl a
theorem ld64 {w : World} {K : Value → World → Prop} (a : Addr) : VK Tryd.prog (Instr.loadAt 64 (.pointer (some a))) w K = ldK (w.cell? a) (ldStuck Tryd.prog 64 a K w) K w := ldE Tryd.underlying64 rfl a
theorem ld69 {w : World} {K : Value → World → Prop} (a : Addr) : VK Tryd.prog (Instr.loadAt 69 (.pointer (some a))) w K = ldK (w.cell? a) (ldStuck Tryd.prog 69 a K w) K w := ldE Tryd.underlying69 rfl a
theorem ld89 {w : World} {K : Value → World → Prop} (a : Addr) : VK Tryd.prog (Instr.loadAt 89 (.pointer (some a))) w K = ldK (w.cell? a) (ldStuck Tryd.prog 89 a K w) K w := ldE Tryd.underlying89 rfl a
theorem ld90 {w : World} {K : Value → World → Prop} (a : Addr) : VK Tryd.prog (Instr.loadAt 90 (.pointer (some a))) w K = ldK (w.cell? a) (ldStuck Tryd.prog 90 a K w) K w := ldE Tryd.underlying90 rfl a
theorem len50 {w : World} {K : Value → World → Prop} (ty : TypeId) (cs : List Bool) (A : Option Addr) (n c : Nat) : IK Tryd.prog .len #[50] ty cs [.slice A n c] w K = K (.int .i64 n) w := len_sl Tryd.underlying50 cs A n c
end Go.Proofs.YtbnbcimjapiicaaDoor.XK
