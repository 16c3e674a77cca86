/- Several texts of this repo, one behind the other, without what is not used here. -/
import Derived.Test.YtbnbcimjapiicaaDoorRows
import Derived.Test.YtbnbcimjapiicaaDoorBN5
set_option linter.unusedVariables false
set_option maxRecDepth 10000
namespace Go.Proofs.YtbnbcimjapiicaaDoor.Tr
open Go Go.X Go.RowKit
def argsN : List Int := [5, 5, 5, 5, 5, 3, 3, 1, -1, -1, 1, -1, 3, 3, 1, 3, 3, 2, 3, 1, 3, 1]
theorem gl_of {W : World} (h : laidMetH Tryd.prog [("dispatcher/scan.words", Rows.laid_dispatcher_scan_words), ("dispatcher/tree.args", Rows.laid_dispatcher_tree_args), ("dispatcher/tree.plain", Rows.laid_dispatcher_tree_plain)] W) : Gl W := by
  rw [MakeChecks.laidMetH_plain _ _ _ (by kernel_rfl)] at h
  obtain ⟨ps, ⟨g, t, cs, fuel, p, q, hg, ht, hv, hd, ⟨g2, t2, cs2, fuel2, p2, q2, hg2, ht2, hv2, hd2, ⟨g3, t3, cs3, fuel3, p3, q3, hg3, ht3, hv3, hd3, _, _⟩, _⟩, _⟩, _⟩ := h
  obtain rfl := Option.some.inj ((show Tryd.prog.globalNamed "dispatcher/scan.words" = some 0 by kernel_rfl).symm.trans hg)
  obtain rfl := Option.some.inj ((show (Tryd.prog.globals[0]?).map (·.type) = some 120 by kernel_rfl).symm.trans ht)
  obtain rfl := Option.some.inj ((show Tryd.prog.globalNamed "dispatcher/tree.args" = some 1 by kernel_rfl).symm.trans hg2)
  obtain rfl := Option.some.inj ((show (Tryd.prog.globals[1]?).map (·.type) = some 133 by kernel_rfl).symm.trans ht2)
  obtain rfl := Option.some.inj ((show Tryd.prog.globalNamed "dispatcher/tree.plain" = some 2 by kernel_rfl).symm.trans hg3)
  obtain rfl := Option.some.inj ((show (Tryd.prog.globals[2]?).map (·.type) = some 135 by kernel_rfl).symm.trans ht3)
  refine ⟨?_, ?_, ?_⟩
  · exact laid_arr (xs := wordsL) (val := txt) (dat := fun b => .lit (.string b)) (n := 43) hg hv (show Tryd.prog.underlying 120 = some (.array 43 9) by kernel_rfl) (by kernel_rfl) (by decide) hd (fun m l x b h hx => laid_str uS m l x b h hx)
  · exact laid_arr (xs := argsN) (val := fun n => .int .i64 n) (dat := fun n => .lit (.int .i64 n)) (n := 22) hg2 hv2 (show Tryd.prog.underlying 133 = some (.array 22 3) by kernel_rfl) (by kernel_rfl) (by decide) hd2 (fun m l x b h hx => laid_int uI m l x b h hx)
  · exact laid_arr (xs := plainL) (val := txt) (dat := fun b => .lit (.string b)) (n := 10) hg3 hv3 (show Tryd.prog.underlying 135 = some (.array 10 9) by kernel_rfl) (by kernel_rfl) (by decide) hd3 (fun m l x b h hx => laid_str uS m l x b h hx)
end Go.Proofs.YtbnbcimjapiicaaDoor.Tr
set_option linter.unusedVariables false
set_option maxRecDepth 4000
namespace Go.Proofs.YtbnbcimjapiicaaDoor.Tr
open Go Go.X Go.RowKit
def shDe : ShM De := ⟨⟨4, fun w e cs => cs = e.cells ∧ e.fine⟩, fun _ => 1⟩
def shPr : ShM Pr := ⟨⟨2, fun w e cs => cs = e.cells ∧ e.Ok w⟩, fun p => p.decls.length + St.szL p.body⟩
theorem opensDe (n : Nat) : OpensM U Tryd.prog n shDe 40 :=
  opensM_as (opensM_struct Tryd.underlying40 (by kernel_rfl) (fun m hm => fieldsM_cons rfl (by kernel_rfl) (opensM_string uS) (fieldsM_cons rfl (by kernel_rfl) (opensM_int uI) (fieldsM_cons rfl (by kernel_rfl) (opensM_int uI) (fieldsM_one rfl (by kernel_rfl) (opensM_int uI))))))
    (fun x => (⟨x.1, x.2.1, x.2.2.1, x.2.2.2⟩ : De))
    (fun w v cs h => by
      obtain ⟨c0, d0, rfl, _, ⟨rfl, h0⟩, c1, d1, rfl, _, ⟨rfl, h1⟩, c2, d2, rfl, _, ⟨rfl, h2⟩, rfl, h3⟩ := h
      exact ⟨rfl, h0, h1, h2, h3⟩)
    (fun v => by
      show 1 ≤ _
      exact Nat.le_add_left 1 _)
theorem des_of {w : World} {x : Value × List De} {cs : List Value} (h : (Sh.slice shDe.toSh).K w x cs) : DesOk w x.1 x.2 :=
  ⟨reads_sh h De.cells De.cells_len (fun a d hk => hk.1), fun a ha => by obtain ⟨d, hd⟩ := mem_sh h a ha; exact hd.2⟩
theorem ones_sum (l : List De) : (l.map fun _ => 1).sum = l.length := by
  induction l with
  | nil => rfl
  | cons a r ih => simp only [List.map_cons, List.sum_cons, List.length_cons, ih]; omega
theorem opensPr (n : Nat) : OpensM U Tryd.prog n shPr 25 :=
  opensM_as (opensM_struct Tryd.underlying25 (by kernel_rfl) (fun m hm => fieldsM_cons rfl (by kernel_rfl) (opensM_slice uDes cDe (fun k hk => opensDe k)) (fieldsM_one rfl (by kernel_rfl) (opensM_slice uSts cSt (fun k hk => opensSt k)))))
    (fun x => (⟨x.1.1, x.1.2, x.2.1, x.2.2⟩ : Pr))
    (fun w v cs h => by
      obtain ⟨c0, d0, rfl, _, h0, h1⟩ := h
      have h0' := des_of h0
      have h1' := sts_of h1
      obtain ⟨rfl, _⟩ := h0
      obtain ⟨rfl, _⟩ := h1
      exact ⟨rfl, h0', h1'⟩)
    (fun v => by
      show v.1.2.length + St.szL v.2.2 ≤ (((v.1.2.map fun _ => 1).sum + 1) + ((v.2.2.map St.sz).sum + 1)) + 1
      rw [St.szL_eq, ones_sum]
      omega)
end Go.Proofs.YtbnbcimjapiicaaDoor.Tr
