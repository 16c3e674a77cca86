/- Printed by wip/x/gen.py (a program of this repo's own): small facts of this program's types. -/
import Derived.Test.YtmgmlnhahofipaaDoorProg
import Derived.Test.YtmgmlnhahofipaaDoorXK
set_option linter.unusedVariables false
namespace Go.Proofs.YtmgmlnhahofipaaDoor.XK
open Go Go.X

theorem fo24_4 {w : World} {K : Value → World → Prop} (a : Addr) : VK Tryd.prog (Instr.fieldAt 24 (.pointer (some a)) 4) w K = K (.pointer (some (a.add 4))) w := fo (by kernel_rfl) a
theorem fo24_5 {w : World} {K : Value → World → Prop} (a : Addr) : VK Tryd.prog (Instr.fieldAt 24 (.pointer (some a)) 5) w K = K (.pointer (some (a.add 5))) w := fo (by kernel_rfl) a
theorem fo43_2 {w : World} {K : Value → World → Prop} (a : Addr) : VK Tryd.prog (Instr.fieldAt 43 (.pointer (some a)) 2) w K = K (.pointer (some (a.add 2))) w := fo (by kernel_rfl) a
theorem fo43_3 {w : World} {K : Value → World → Prop} (a : Addr) : VK Tryd.prog (Instr.fieldAt 43 (.pointer (some a)) 3) w K = K (.pointer (some (a.add 3))) w := fo (by kernel_rfl) a
theorem fo45_8 {w : World} {K : Value → World → Prop} (a : Addr) : VK Tryd.prog (Instr.fieldAt 45 (.pointer (some a)) 8) w K = K (.pointer (some (a.add 8))) w := fo (by kernel_rfl) a
theorem fo45_9 {w : World} {K : Value → World → Prop} (a : Addr) : VK Tryd.prog (Instr.fieldAt 45 (.pointer (some a)) 9) w K = K (.pointer (some (a.add 9))) w := fo (by kernel_rfl) a
theorem fo51_0 {w : World} {K : Value → World → Prop} (a : Addr) : VK Tryd.prog (Instr.fieldAt 51 (.pointer (some a)) 0) w K = K (.pointer (some (a.add 0))) w := fo (by kernel_rfl) a
theorem fo71_0 {w : World} {K : Value → World → Prop} (a : Addr) : VK Tryd.prog (Instr.fieldAt 71 (.pointer (some a)) 0) w K = K (.pointer (some (a.add 0))) w := fo (by kernel_rfl) a
theorem fo71_2 {w : World} {K : Value → World → Prop} (a : Addr) : VK Tryd.prog (Instr.fieldAt 71 (.pointer (some a)) 2) w K = K (.pointer (some (a.add 2))) w := fo (by kernel_rfl) a
theorem fo71_3 {w : World} {K : Value → World → Prop} (a : Addr) : VK Tryd.prog (Instr.fieldAt 71 (.pointer (some a)) 3) w K = K (.pointer (some (a.add 3))) w := fo (by kernel_rfl) a
theorem fo96_0 {w : World} {K : Value → World → Prop} (a : Addr) : VK Tryd.prog (Instr.fieldAt 96 (.pointer (some a)) 0) w K = K (.pointer (some (a.add 0))) w := fo (by kernel_rfl) a
theorem fo96_1 {w : World} {K : Value → World → Prop} (a : Addr) : VK Tryd.prog (Instr.fieldAt 96 (.pointer (some a)) 1) w K = K (.pointer (some (a.add 1))) w := fo (by kernel_rfl) a
theorem fo96_2 {w : World} {K : Value → World → Prop} (a : Addr) : VK Tryd.prog (Instr.fieldAt 96 (.pointer (some a)) 2) w K = K (.pointer (some (a.add 2))) w := fo (by kernel_rfl) a
theorem fo96_3 {w : World} {K : Value → World → Prop} (a : Addr) : VK Tryd.prog (Instr.fieldAt 96 (.pointer (some a)) 3) w K = K (.pointer (some (a.add 3))) w := fo (by kernel_rfl) a
theorem fo96_4 {w : World} {K : Value → World → Prop} (a : Addr) : VK Tryd.prog (Instr.fieldAt 96 (.pointer (some a)) 4) w K = K (.pointer (some (a.add 4))) w := fo (by kernel_rfl) a
theorem ld27 {w : World} {K : Value → World → Prop} (a : Addr) : VK Tryd.prog (Instr.loadAt 27 (.pointer (some a))) w K = ldK (w.cell? a) (ldStuck Tryd.prog 27 a K w) K w := ldE Tryd.underlying27 rfl a
theorem ld35 {w : World} {K : Value → World → Prop} (a : Addr) : VK Tryd.prog (Instr.loadAt 35 (.pointer (some a))) w K = ldK (w.cell? a) (ldStuck Tryd.prog 35 a K w) K w := ldE Tryd.underlying35 rfl a
theorem ld57 {w : World} {K : Value → World → Prop} (a : Addr) : VK Tryd.prog (Instr.loadAt 57 (.pointer (some a))) w K = ldK (w.cell? a) (ldStuck Tryd.prog 57 a K w) K w := ldE Tryd.underlying57 rfl a
theorem ld65 {w : World} {K : Value → World → Prop} (a : Addr) : VK Tryd.prog (Instr.loadAt 65 (.pointer (some a))) w K = ldK (w.cell? a) (ldStuck Tryd.prog 65 a K w) K w := ldE Tryd.underlying65 rfl a
theorem ld92 {w : World} {K : Value → World → Prop} (a : Addr) : VK Tryd.prog (Instr.loadAt 92 (.pointer (some a))) w K = ldK (w.cell? a) (ldStuck Tryd.prog 92 a K w) K w := ldE Tryd.underlying92 rfl a
theorem ld93 {w : World} {K : Value → World → Prop} (a : Addr) : VK Tryd.prog (Instr.loadAt 93 (.pointer (some a))) w K = ldK (w.cell? a) (ldStuck Tryd.prog 93 a K w) K w := ldE Tryd.underlying93 rfl a
theorem ld94 {w : World} {K : Value → World → Prop} (a : Addr) : VK Tryd.prog (Instr.loadAt 94 (.pointer (some a))) w K = ldK (w.cell? a) (ldStuck Tryd.prog 94 a K w) K w := ldE Tryd.underlying94 rfl a
theorem ld121 {w : World} {K : Value → World → Prop} (a : Addr) : VK Tryd.prog (Instr.loadAt 121 (.pointer (some a))) w K = ldK (w.cell? a) (ldStuck Tryd.prog 121 a K w) K w := ldE Tryd.underlying121 rfl a
theorem len94 {w : World} {K : Value → World → Prop} (ty : TypeId) (cs : List Bool) (A : Option Addr) (n c : Nat) : IK Tryd.prog .len #[94] ty cs [.slice A n c] w K = K (.int .i64 n) w := len_sl Tryd.underlying94 cs A n c
theorem fo34_0 {w : World} {K : Value → World → Prop} (a : Addr) : VK Tryd.prog (Instr.fieldAt 34 (.pointer (some a)) 0) w K = K (.pointer (some (a.add 0))) w := fo (by kernel_rfl) a
theorem fo34_1 {w : World} {K : Value → World → Prop} (a : Addr) : VK Tryd.prog (Instr.fieldAt 34 (.pointer (some a)) 1) w K = K (.pointer (some (a.add 1))) w := fo (by kernel_rfl) a
theorem fo34_2 {w : World} {K : Value → World → Prop} (a : Addr) : VK Tryd.prog (Instr.fieldAt 34 (.pointer (some a)) 2) w K = K (.pointer (some (a.add 2))) w := fo (by kernel_rfl) a
end Go.Proofs.YtmgmlnhahofipaaDoor.XK
