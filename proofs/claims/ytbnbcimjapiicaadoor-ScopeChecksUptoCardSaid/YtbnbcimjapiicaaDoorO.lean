/- Trees as arguments: what is read is a tree, no greater than the reading's bulk. -/
import Derived.Test.YtbnbcimjapiicaaDoorXT
import Derived.Test.YtbnbcimjapiicaaDoorRows
set_option linter.unusedVariables false
set_option maxRecDepth 4000
namespace Go.Proofs.YtbnbcimjapiicaaDoor.Tr
open Go Go.X Go.RowKit

theorem bulkAll_sum {H : Type} : ∀ l : List (DataW H), Rows.uptoBulkAll l = (l.map Rows.uptoBulk).sum
  | [] => by simp [Rows.uptoBulkAll]
  | d :: r => by simp [Rows.uptoBulkAll, bulkAll_sum r]
def U : Bulk where
  B := Rows.uptoBulk
  one := fun d => by
    cases d with
    | lit l => cases l <;> simp [Rows.uptoBulk]
    | nil => simp [Rows.uptoBulk]
    | ptr d => simp [Rows.uptoBulk]
    | slice elems spare => simp [Rows.uptoBulk]
    | agg parts => simp [Rows.uptoBulk]
    | iface t d => simp [Rows.uptoBulk]
    | map entries => simp [Rows.uptoBulk]
    | held h => simp [Rows.uptoBulk]
  str := fun b => by simp [Rows.uptoBulk]
  slice := fun es sp => by simp only [Rows.uptoBulk, bulkAll_sum]; omega
  agg := fun es => by simp only [Rows.uptoBulk, bulkAll_sum]; omega
def shEx : ShM Ex := ⟨⟨6, fun w e cs => cs = e.cells ∧ e.Ok w⟩, Ex.sz⟩
def shSt : ShM St := ⟨⟨10, fun w e cs => cs = e.cells ∧ e.Ok w⟩, St.sz⟩
theorem uU8 : Tryd.prog.underlying 5 = some (.int .u8) := by kernel_rfl
theorem uI : Tryd.prog.underlying 3 = some (.int .i64) := by kernel_rfl
theorem uI64 : Tryd.prog.underlying 2 = some (.int .i64) := by kernel_rfl
theorem uS : Tryd.prog.underlying 9 = some .string := by kernel_rfl
theorem uExs : Tryd.prog.underlying 58 = some (.slice 60) := by kernel_rfl
theorem uSts : Tryd.prog.underlying 23 = some (.slice 62) := by kernel_rfl
theorem cEx : Tryd.prog.cellsOf 60 = 6 := by kernel_rfl
theorem cSt : Tryd.prog.cellsOf 62 = 10 := by kernel_rfl
/-- A row of such. -/
theorem exs_of {w : World} {x : Value × List Ex} {cs : List Value} (h : (Sh.slice shEx.toSh).K w x cs) : ExsOk w x.1 x.2 :=
  ⟨reads_sh h Ex.cells Ex.cells_len (fun a d hk => hk.1), fun a ha => by obtain ⟨d, hd⟩ := mem_sh h a ha; exact hd.2⟩
theorem sts_of {w : World} {x : Value × List St} {cs : List Value} (h : (Sh.slice shSt.toSh).K w x cs) : StsOk w x.1 x.2 :=
  ⟨reads_sh h St.cells St.cells_len (fun a d hk => hk.1), fun a ha => by obtain ⟨d, hd⟩ := mem_sh h a ha; exact hd.2⟩
theorem opensEx : ∀ n, OpensM U Tryd.prog n shEx 60 := by
  intro n
  induction n using Nat.strongRecOn with
  | ind n ih =>
    exact opensM_as (opensM_struct Tryd.underlying60 (by kernel_rfl) (fun m hm => fieldsM_cons rfl (by kernel_rfl) (opensM_int uU8) (fieldsM_cons rfl (by kernel_rfl) (opensM_int uI64) (fieldsM_cons rfl (by kernel_rfl) (opensM_string uS)
      (fieldsM_cons rfl (by kernel_rfl) (opensM_slice uExs cEx (fun k hk => ih k (by omega))) (fieldsM_cons rfl (by kernel_rfl) (opensM_int uI) (fieldsM_one rfl (by kernel_rfl) (opensM_int uI))))))))
      (fun x => (⟨x.1, x.2.1, x.2.2.1, x.2.2.2.1.1, x.2.2.2.1.2, x.2.2.2.2.1, x.2.2.2.2.2⟩ : Ex))
      (fun w v cs h => by
        obtain ⟨c0, d0, rfl, _, ⟨rfl, h0⟩, c1, d1, rfl, _, ⟨rfl, h1⟩, c2, d2, rfl, _, ⟨rfl, h2⟩, c3, d3, rfl, _, h3, c4, d4, rfl, _, ⟨rfl, h4⟩, rfl, h5⟩ := h
        have h3' := exs_of h3
        obtain ⟨rfl, _⟩ := h3
        exact ⟨rfl, Ex.ok.2 ⟨h3'.1, ⟨h0, h1, h2, h4, h5⟩, h3'.2⟩⟩)
      (fun v => by
        show Ex.sz _ ≤ _
        rw [Ex.sz_eq, Ex.szL_eq]
        show 1 + _ + _ ≤ (1 + (1 + ((_ + 1) + ((_ + 1) + (1 + 1))))) + 1
        show 1 + v.2.2.1.size + (v.2.2.2.1.2.map Ex.sz).sum ≤ (1 + (1 + ((v.2.2.1.size + 1) + (((v.2.2.2.1.2.map Ex.sz).sum + 1) + (1 + 1))))) + 1
        omega)
theorem opensSt : ∀ n, OpensM U Tryd.prog n shSt 62 := by
  intro n
  induction n using Nat.strongRecOn with
  | ind n ih =>
    exact opensM_as (opensM_struct Tryd.underlying62 (by kernel_rfl) (fun m hm => fieldsM_cons rfl (by kernel_rfl) (opensM_int uU8) (fieldsM_cons rfl (by kernel_rfl) (opensM_int uU8) (fieldsM_cons rfl (by kernel_rfl) (opensM_int uU8)
      (fieldsM_cons rfl (by kernel_rfl) (opensM_string uS) (fieldsM_cons rfl (by kernel_rfl) (opensM_int uI) (fieldsM_cons rfl (by kernel_rfl) (opensM_slice uExs cEx (fun k hk => opensEx k)) (fieldsM_cons rfl (by kernel_rfl) (opensM_slice uSts cSt (fun k hk => ih k (by omega)))
      (fieldsM_cons rfl (by kernel_rfl) (opensM_slice uSts cSt (fun k hk => ih k (by omega))) (fieldsM_cons rfl (by kernel_rfl) (opensM_int uI) (fieldsM_one rfl (by kernel_rfl) (opensM_int uI))))))))))))
      (fun x => (⟨x.1, x.2.1, x.2.2.1, x.2.2.2.1, x.2.2.2.2.1, x.2.2.2.2.2.1.1, x.2.2.2.2.2.1.2, x.2.2.2.2.2.2.1.1, x.2.2.2.2.2.2.1.2, x.2.2.2.2.2.2.2.1.1, x.2.2.2.2.2.2.2.1.2, x.2.2.2.2.2.2.2.2.1, x.2.2.2.2.2.2.2.2.2⟩ : St))
      (fun w v cs h => by
        obtain ⟨c0, d0, rfl, _, ⟨rfl, h0⟩, c1, d1, rfl, _, ⟨rfl, h1⟩, c2, d2, rfl, _, ⟨rfl, h2⟩, c3, d3, rfl, _, ⟨rfl, h3⟩, c4, d4, rfl, _, ⟨rfl, h4⟩, c5, d5, rfl, _, h5, c6, d6, rfl, _, h6, c7, d7, rfl, _, h7, c8, d8, rfl, _, ⟨rfl, h8⟩, rfl, h9⟩ := h
        have h5' := exs_of h5
        have h6' := sts_of h6
        have h7' := sts_of h7
        obtain ⟨rfl, _⟩ := h5
        obtain ⟨rfl, _⟩ := h6
        obtain ⟨rfl, _⟩ := h7
        exact ⟨rfl, St.ok.2 ⟨h5', h6', h7', h0, h1, h2, h3, h4, h8, h9⟩⟩)
      (fun v => by
        show St.sz _ ≤ _
        rw [St.sz_eq, Ex.szL_eq, St.szL_eq, St.szL_eq]
        show 1 + v.2.2.2.1.size + (v.2.2.2.2.2.1.2.map Ex.sz).sum + (v.2.2.2.2.2.2.1.2.map St.sz).sum + (v.2.2.2.2.2.2.2.1.2.map St.sz).sum ≤ (1 + (1 + (1 + ((v.2.2.2.1.size + 1) + (1 + (((v.2.2.2.2.2.1.2.map Ex.sz).sum + 1) + (((v.2.2.2.2.2.2.1.2.map St.sz).sum + 1) + (((v.2.2.2.2.2.2.2.1.2.map St.sz).sum + 1) + (1 + 1))))))))) + 1
        omega)
end Go.Proofs.YtbnbcimjapiicaaDoor.Tr
