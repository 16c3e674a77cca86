/- Printed by wip/x/gen.py (a program of this repo's own): small facts of this program's types. -/
import Derived.Test.YtmgmlnhahofipaaDoorProg
import Derived.Test.YtmgmlnhahofipaaDoorXMore
set_option linter.unusedVariables false
namespace Go.Proofs.YtmgmlnhahofipaaDoor.XK
open Go Go.X

theorem fo24_0 {w : World} {K : Value → World → Prop} (a : Addr) : VK Tryd.prog (Instr.fieldAt 24 (.pointer (some a)) 0) w K = K (.pointer (some (a.add 0))) w := fo (by kernel_rfl) a
theorem fo24_1 {w : World} {K : Value → World → Prop} (a : Addr) : VK Tryd.prog (Instr.fieldAt 24 (.pointer (some a)) 1) w K = K (.pointer (some (a.add 1))) w := fo (by kernel_rfl) a
theorem fo24_2 {w : World} {K : Value → World → Prop} (a : Addr) : VK Tryd.prog (Instr.fieldAt 24 (.pointer (some a)) 2) w K = K (.pointer (some (a.add 2))) w := fo (by kernel_rfl) a
theorem fo24_3 {w : World} {K : Value → World → Prop} (a : Addr) : VK Tryd.prog (Instr.fieldAt 24 (.pointer (some a)) 3) w K = K (.pointer (some (a.add 3))) w := fo (by kernel_rfl) a
theorem fo31_0 {w : World} {K : Value → World → Prop} (a : Addr) : VK Tryd.prog (Instr.fieldAt 31 (.pointer (some a)) 0) w K = K (.pointer (some (a.add 0))) w := fo (by kernel_rfl) a
theorem fo31_1 {w : World} {K : Value → World → Prop} (a : Addr) : VK Tryd.prog (Instr.fieldAt 31 (.pointer (some a)) 1) w K = K (.pointer (some (a.add 1))) w := fo (by kernel_rfl) a
theorem fo43_0 {w : World} {K : Value → World → Prop} (a : Addr) : VK Tryd.prog (Instr.fieldAt 43 (.pointer (some a)) 0) w K = K (.pointer (some (a.add 0))) w := fo (by kernel_rfl) a
theorem fo43_1 {w : World} {K : Value → World → Prop} (a : Addr) : VK Tryd.prog (Instr.fieldAt 43 (.pointer (some a)) 1) w K = K (.pointer (some (a.add 1))) w := fo (by kernel_rfl) a
theorem fo45_0 {w : World} {K : Value → World → Prop} (a : Addr) : VK Tryd.prog (Instr.fieldAt 45 (.pointer (some a)) 0) w K = K (.pointer (some (a.add 0))) w := fo (by kernel_rfl) a
theorem fo45_1 {w : World} {K : Value → World → Prop} (a : Addr) : VK Tryd.prog (Instr.fieldAt 45 (.pointer (some a)) 1) w K = K (.pointer (some (a.add 1))) w := fo (by kernel_rfl) a
theorem fo45_2 {w : World} {K : Value → World → Prop} (a : Addr) : VK Tryd.prog (Instr.fieldAt 45 (.pointer (some a)) 2) w K = K (.pointer (some (a.add 2))) w := fo (by kernel_rfl) a
theorem fo45_3 {w : World} {K : Value → World → Prop} (a : Addr) : VK Tryd.prog (Instr.fieldAt 45 (.pointer (some a)) 3) w K = K (.pointer (some (a.add 3))) w := fo (by kernel_rfl) a
theorem fo45_4 {w : World} {K : Value → World → Prop} (a : Addr) : VK Tryd.prog (Instr.fieldAt 45 (.pointer (some a)) 4) w K = K (.pointer (some (a.add 4))) w := fo (by kernel_rfl) a
theorem fo45_5 {w : World} {K : Value → World → Prop} (a : Addr) : VK Tryd.prog (Instr.fieldAt 45 (.pointer (some a)) 5) w K = K (.pointer (some (a.add 5))) w := fo (by kernel_rfl) a
theorem fo45_6 {w : World} {K : Value → World → Prop} (a : Addr) : VK Tryd.prog (Instr.fieldAt 45 (.pointer (some a)) 6) w K = K (.pointer (some (a.add 6))) w := fo (by kernel_rfl) a
theorem fo45_7 {w : World} {K : Value → World → Prop} (a : Addr) : VK Tryd.prog (Instr.fieldAt 45 (.pointer (some a)) 7) w K = K (.pointer (some (a.add 7))) w := fo (by kernel_rfl) a
theorem ld2 {w : World} {K : Value → World → Prop} (a : Addr) : VK Tryd.prog (Instr.loadAt 2 (.pointer (some a))) w K = ldK (w.cell? a) (ldStuck Tryd.prog 2 a K w) K w := ldE Tryd.underlying2 rfl a
theorem ld3 {w : World} {K : Value → World → Prop} (a : Addr) : VK Tryd.prog (Instr.loadAt 3 (.pointer (some a))) w K = ldK (w.cell? a) (ldStuck Tryd.prog 3 a K w) K w := ldE Tryd.underlying3 rfl a
theorem ld5 {w : World} {K : Value → World → Prop} (a : Addr) : VK Tryd.prog (Instr.loadAt 5 (.pointer (some a))) w K = ldK (w.cell? a) (ldStuck Tryd.prog 5 a K w) K w := ldE Tryd.underlying5 rfl a
theorem ld9 {w : World} {K : Value → World → Prop} (a : Addr) : VK Tryd.prog (Instr.loadAt 9 (.pointer (some a))) w K = ldK (w.cell? a) (ldStuck Tryd.prog 9 a K w) K w := ldE Tryd.underlying9 rfl a
theorem ld22 {w : World} {K : Value → World → Prop} (a : Addr) : VK Tryd.prog (Instr.loadAt 22 (.pointer (some a))) w K = ldK (w.cell? a) (ldStuck Tryd.prog 22 a K w) K w := ldE Tryd.underlying22 rfl a
theorem ld28 {w : World} {K : Value → World → Prop} (a : Addr) : VK Tryd.prog (Instr.loadAt 28 (.pointer (some a))) w K = ldK (w.cell? a) (ldStuck Tryd.prog 28 a K w) K w := ldE Tryd.underlying28 rfl a
theorem ld29 {w : World} {K : Value → World → Prop} (a : Addr) : VK Tryd.prog (Instr.loadAt 29 (.pointer (some a))) w K = ldK (w.cell? a) (ldStuck Tryd.prog 29 a K w) K w := ldE Tryd.underlying29 rfl a
theorem len9 {w : World} {K : Value → World → Prop} (ty : TypeId) (cs : List Bool) (s : ByteArray) : IK Tryd.prog .len #[9] ty cs [.string s] w K = K (.int .i64 s.size) w := len_str Tryd.underlying9 cs s
theorem len22 {w : World} {K : Value → World → Prop} (ty : TypeId) (cs : List Bool) (A : Option Addr) (n c : Nat) : IK Tryd.prog .len #[22] ty cs [.slice A n c] w K = K (.int .i64 n) w := len_sl Tryd.underlying22 cs A n c
theorem len28 {w : World} {K : Value → World → Prop} (ty : TypeId) (cs : List Bool) (A : Option Addr) (n c : Nat) : IK Tryd.prog .len #[28] ty cs [.slice A n c] w K = K (.int .i64 n) w := len_sl Tryd.underlying28 cs A n c
theorem len29 {w : World} {K : Value → World → Prop} (ty : TypeId) (cs : List Bool) (A : Option Addr) (n c : Nat) : IK Tryd.prog .len #[29] ty cs [.slice A n c] w K = K (.int .i64 n) w := len_sl Tryd.underlying29 cs A n c
theorem len93 {w : World} {K : Value → World → Prop} (ty : TypeId) (cs : List Bool) (A : Option Addr) (n c : Nat) : IK Tryd.prog .len #[93] ty cs [.slice A n c] w K = K (.int .i64 n) w := len_sl Tryd.underlying93 cs A n c
end Go.Proofs.YtmgmlnhahofipaaDoor.XK
