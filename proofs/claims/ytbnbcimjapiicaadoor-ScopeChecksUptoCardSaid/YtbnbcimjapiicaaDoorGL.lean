/- What the listed tables hold. -/
import Derived.Test.YtbnbcimjapiicaaDoorXLaid
import Derived.Test.YtbnbcimjapiicaaDoorC
import Derived.Test.YtbnbcimjapiicaaDoorRows
set_option linter.unusedVariables false
set_option maxRecDepth 10000
namespace Go.Proofs.YtbnbcimjapiicaaDoor.Tr
open Go Go.X Go.RowKit

def argsN : List Int := [5, 5, 5, 5, 5, 3, 3, 1, -1, -1, 1, -1, 3, 3, 1, 3, 3, 2, 3, 1, 3, 1]
theorem gl_of {W : World} (h : laidMetH Tryd.prog [("dispatcher/scan.words", Rows.laid_dispatcher_scan_words), ("dispatcher/tree.args", Rows.laid_dispatcher_tree_args), ("dispatcher/tree.plain", Rows.laid_dispatcher_tree_plain)] W) : Gl W := by
  rw [MakeChecks.laidMetH_plain _ _ _ (by kernel_rfl)] at h
  obtain ⟨ps, ⟨g, t, cs, fuel, p, q, hg, ht, hv, hd, ⟨g2, t2, cs2, fuel2, p2, q2, hg2, ht2, hv2, hd2, ⟨g3, t3, cs3, fuel3, p3, q3, hg3, ht3, hv3, hd3, _, _⟩, _⟩, _⟩, _⟩ := h
  obtain rfl := Option.some.inj ((show Tryd.prog.globalNamed "dispatcher/scan.words" = some 0 by kernel_rfl).symm.trans hg)
  obtain rfl := Option.some.inj ((show (Tryd.prog.globals[0]?).map (·.type) = some 120 by kernel_rfl).symm.trans ht)
  obtain rfl := Option.some.inj ((show Tryd.prog.globalNamed "dispatcher/tree.args" = some 1 by kernel_rfl).symm.trans hg2)
  obtain rfl := Option.some.inj ((show (Tryd.prog.globals[1]?).map (·.type) = some 133 by kernel_rfl).symm.trans ht2)
  obtain rfl := Option.some.inj ((show Tryd.prog.globalNamed "dispatcher/tree.plain" = some 2 by kernel_rfl).symm.trans hg3)
  obtain rfl := Option.some.inj ((show (Tryd.prog.globals[2]?).map (·.type) = some 135 by kernel_rfl).symm.trans ht3)
  refine ⟨?_, ?_, ?_⟩
  · exact laid_arr (xs := wordsL) (val := txt) (dat := fun b => .lit (.string b)) (n := 43) hg hv (show Tryd.prog.underlying 120 = some (.array 43 9) by kernel_rfl) (by kernel_rfl) (by decide) hd (fun m l x b h hx => laid_str uS m l x b h hx)
  · exact laid_arr (xs := argsN) (val := fun n => .int .i64 n) (dat := fun n => .lit (.int .i64 n)) (n := 22) hg2 hv2 (show Tryd.prog.underlying 133 = some (.array 22 3) by kernel_rfl) (by kernel_rfl) (by decide) hd2 (fun m l x b h hx => laid_int uI m l x b h hx)
  · exact laid_arr (xs := plainL) (val := txt) (dat := fun b => .lit (.string b)) (n := 10) hg3 hv3 (show Tryd.prog.underlying 135 = some (.array 10 9) by kernel_rfl) (by kernel_rfl) (by decide) hd3 (fun m l x b h hx => laid_str uS m l x b h hx)
end Go.Proofs.YtbnbcimjapiicaaDoor.Tr
