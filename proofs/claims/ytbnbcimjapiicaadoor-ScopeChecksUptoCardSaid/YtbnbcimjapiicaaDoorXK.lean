/- Printed by wip/x/gen.py (a program of this repo's own): small facts of this program's types. -/
import Derived.Test.YtbnbcimjapiicaaDoorProg
import Derived.Test.YtbnbcimjapiicaaDoorXMore
set_option linter.unusedVariables false
namespace Go.Proofs.YtbnbcimjapiicaaDoor.XK
open Go Go.X

theorem fo25_0 {w : World} {K : Value → World → Prop} (a : Addr) : VK Tryd.prog (Instr.fieldAt 25 (.pointer (some a)) 0) w K = K (.pointer (some (a.add 0))) w := fo (by kernel_rfl) a
theorem fo25_1 {w : World} {K : Value → World → Prop} (a : Addr) : VK Tryd.prog (Instr.fieldAt 25 (.pointer (some a)) 1) w K = K (.pointer (some (a.add 1))) w := fo (by kernel_rfl) a
theorem fo40_0 {w : World} {K : Value → World → Prop} (a : Addr) : VK Tryd.prog (Instr.fieldAt 40 (.pointer (some a)) 0) w K = K (.pointer (some (a.add 0))) w := fo (by kernel_rfl) a
theorem fo40_1 {w : World} {K : Value → World → Prop} (a : Addr) : VK Tryd.prog (Instr.fieldAt 40 (.pointer (some a)) 1) w K = K (.pointer (some (a.add 1))) w := fo (by kernel_rfl) a
theorem fo60_0 {w : World} {K : Value → World → Prop} (a : Addr) : VK Tryd.prog (Instr.fieldAt 60 (.pointer (some a)) 0) w K = K (.pointer (some (a.add 0))) w := fo (by kernel_rfl) a
theorem fo60_1 {w : World} {K : Value → World → Prop} (a : Addr) : VK Tryd.prog (Instr.fieldAt 60 (.pointer (some a)) 1) w K = K (.pointer (some (a.add 1))) w := fo (by kernel_rfl) a
theorem fo60_2 {w : World} {K : Value → World → Prop} (a : Addr) : VK Tryd.prog (Instr.fieldAt 60 (.pointer (some a)) 2) w K = K (.pointer (some (a.add 2))) w := fo (by kernel_rfl) a
theorem fo60_3 {w : World} {K : Value → World → Prop} (a : Addr) : VK Tryd.prog (Instr.fieldAt 60 (.pointer (some a)) 3) w K = K (.pointer (some (a.add 3))) w := fo (by kernel_rfl) a
theorem fo62_0 {w : World} {K : Value → World → Prop} (a : Addr) : VK Tryd.prog (Instr.fieldAt 62 (.pointer (some a)) 0) w K = K (.pointer (some (a.add 0))) w := fo (by kernel_rfl) a
theorem fo62_1 {w : World} {K : Value → World → Prop} (a : Addr) : VK Tryd.prog (Instr.fieldAt 62 (.pointer (some a)) 1) w K = K (.pointer (some (a.add 1))) w := fo (by kernel_rfl) a
theorem fo62_2 {w : World} {K : Value → World → Prop} (a : Addr) : VK Tryd.prog (Instr.fieldAt 62 (.pointer (some a)) 2) w K = K (.pointer (some (a.add 2))) w := fo (by kernel_rfl) a
theorem fo62_3 {w : World} {K : Value → World → Prop} (a : Addr) : VK Tryd.prog (Instr.fieldAt 62 (.pointer (some a)) 3) w K = K (.pointer (some (a.add 3))) w := fo (by kernel_rfl) a
theorem fo62_4 {w : World} {K : Value → World → Prop} (a : Addr) : VK Tryd.prog (Instr.fieldAt 62 (.pointer (some a)) 4) w K = K (.pointer (some (a.add 4))) w := fo (by kernel_rfl) a
theorem fo62_5 {w : World} {K : Value → World → Prop} (a : Addr) : VK Tryd.prog (Instr.fieldAt 62 (.pointer (some a)) 5) w K = K (.pointer (some (a.add 5))) w := fo (by kernel_rfl) a
theorem fo62_6 {w : World} {K : Value → World → Prop} (a : Addr) : VK Tryd.prog (Instr.fieldAt 62 (.pointer (some a)) 6) w K = K (.pointer (some (a.add 6))) w := fo (by kernel_rfl) a
theorem fo62_7 {w : World} {K : Value → World → Prop} (a : Addr) : VK Tryd.prog (Instr.fieldAt 62 (.pointer (some a)) 7) w K = K (.pointer (some (a.add 7))) w := fo (by kernel_rfl) a
theorem ld2 {w : World} {K : Value → World → Prop} (a : Addr) : VK Tryd.prog (Instr.loadAt 2 (.pointer (some a))) w K = ldK (w.cell? a) (ldStuck Tryd.prog 2 a K w) K w := ldE Tryd.underlying2 rfl a
theorem ld3 {w : World} {K : Value → World → Prop} (a : Addr) : VK Tryd.prog (Instr.loadAt 3 (.pointer (some a))) w K = ldK (w.cell? a) (ldStuck Tryd.prog 3 a K w) K w := ldE Tryd.underlying3 rfl a
theorem ld5 {w : World} {K : Value → World → Prop} (a : Addr) : VK Tryd.prog (Instr.loadAt 5 (.pointer (some a))) w K = ldK (w.cell? a) (ldStuck Tryd.prog 5 a K w) K w := ldE Tryd.underlying5 rfl a
theorem ld9 {w : World} {K : Value → World → Prop} (a : Addr) : VK Tryd.prog (Instr.loadAt 9 (.pointer (some a))) w K = ldK (w.cell? a) (ldStuck Tryd.prog 9 a K w) K w := ldE Tryd.underlying9 rfl a
theorem ld22 {w : World} {K : Value → World → Prop} (a : Addr) : VK Tryd.prog (Instr.loadAt 22 (.pointer (some a))) w K = ldK (w.cell? a) (ldStuck Tryd.prog 22 a K w) K w := ldE Tryd.underlying22 rfl a
theorem ld23 {w : World} {K : Value → World → Prop} (a : Addr) : VK Tryd.prog (Instr.loadAt 23 (.pointer (some a))) w K = ldK (w.cell? a) (ldStuck Tryd.prog 23 a K w) K w := ldE Tryd.underlying23 rfl a
theorem ld58 {w : World} {K : Value → World → Prop} (a : Addr) : VK Tryd.prog (Instr.loadAt 58 (.pointer (some a))) w K = ldK (w.cell? a) (ldStuck Tryd.prog 58 a K w) K w := ldE Tryd.underlying58 rfl a
theorem len9 {w : World} {K : Value → World → Prop} (ty : TypeId) (cs : List Bool) (s : ByteArray) : IK Tryd.prog .len #[9] ty cs [.string s] w K = K (.int .i64 s.size) w := len_str Tryd.underlying9 cs s
theorem len22 {w : World} {K : Value → World → Prop} (ty : TypeId) (cs : List Bool) (A : Option Addr) (n c : Nat) : IK Tryd.prog .len #[22] ty cs [.slice A n c] w K = K (.int .i64 n) w := len_sl Tryd.underlying22 cs A n c
theorem len23 {w : World} {K : Value → World → Prop} (ty : TypeId) (cs : List Bool) (A : Option Addr) (n c : Nat) : IK Tryd.prog .len #[23] ty cs [.slice A n c] w K = K (.int .i64 n) w := len_sl Tryd.underlying23 cs A n c
theorem len52 {w : World} {K : Value → World → Prop} (ty : TypeId) (cs : List Bool) (A : Option Addr) (n c : Nat) : IK Tryd.prog .len #[52] ty cs [.slice A n c] w K = K (.int .i64 n) w := len_sl Tryd.underlying52 cs A n c
theorem len58 {w : World} {K : Value → World → Prop} (ty : TypeId) (cs : List Bool) (A : Option Addr) (n c : Nat) : IK Tryd.prog .len #[58] ty cs [.slice A n c] w K = K (.int .i64 n) w := len_sl Tryd.underlying58 cs A n c
end Go.Proofs.YtbnbcimjapiicaaDoor.XK
