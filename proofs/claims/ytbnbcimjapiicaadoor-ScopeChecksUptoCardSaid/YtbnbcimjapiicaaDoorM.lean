/- Whether a statement may be. -/
import Derived.Test.YtbnbcimjapiicaaDoorL
import Derived.Test.YtbnbcimjapiicaaDoorXFold
set_option linter.unusedVariables false
set_option linter.unusedSimpArgs false
set_option maxRecDepth 4000
namespace Go.Proofs.YtbnbcimjapiicaaDoor.Tr
open Go Go.X Go.RowKit Go.Proofs.YtbnbcimjapiicaaDoor.XF Go.Proofs.YtbnbcimjapiicaaDoor.XK

def MaySt (a : St) : Prop := ∀ w, Gl w → a.Ok w → a.sz ≤ 1099511627776 → Rt Tryd.prog 75 #[.agg a.cells.toArray] w fun v w' => v = .bool a.may ∧ Mod none_ w w'
theorem exs_call {l : List Ex} {w : World} (hg : Gl w) {s : Value} (h : ExsOk w s l) (hsz : Ex.szL l ≤ 1099511627776) :
    ∀ a ∈ l, ∀ w', Mod none_ w w' → ∀ K : Value → World → Prop, (∀ w'', Mod none_ w' w'' → K (.bool (!a.may)) w'') → CK Tryd.prog (.func (.func 95) #[] #[]) [.agg a.cells.toArray] w' K := by
  intro a ha w' hm K hk
  refine CK_st (R := fun v w'' => v = .bool (!a.may) ∧ Mod none_ w' w'') Tryd.func95 rfl rfl ?_ (fun v w'' hv => by rw [hv.1]; exact hk w'' hv.2)
  refine tree_mayStmt_1_calls ?_
  unfold tree_mayStmt_1_F
  refine box_k (cs := a.cells.toArray) rfl fun w1 hb1 hm1 _ => ?_
  refine ldB (cs := a.cells.toArray) Tryd.underlying60 rfl iEx hb1 ?_
  refine CK_st Tryd.func96 rfl rfl (mayExpr_ok a w1 ((hg.mod hm).mod hm1) (((h.2 a ha).mod hm).mod hm1) (by have := Ex.szL_mem ha; omega)) ?_
  rintro _ w2 ⟨rfl, hm2⟩
  rw [not_ok]
  exact ⟨rfl, hm1.trans hm2⟩
theorem sts_call {l : List St} (ih : ∀ a ∈ l, MaySt a) {w : World} (hg : Gl w) {s : Value} (h : StsOk w s l) (hsz : St.szL l ≤ 1099511627776) :
    ∀ a ∈ l, ∀ w', Mod none_ w w' → ∀ K : Value → World → Prop, (∀ w'', Mod none_ w' w'' → K (.bool (!a.may)) w'') → CK Tryd.prog (.func (.func 74) #[] #[]) [.agg a.cells.toArray] w' K := by
  intro a ha w' hm K hk
  refine CK_st (R := fun v w'' => v = .bool (!a.may) ∧ Mod none_ w' w'') Tryd.func74 rfl rfl ?_ (fun v w'' hv => by rw [hv.1]; exact hk w'' hv.2)
  refine tree_mayStmts_1_calls ?_
  unfold tree_mayStmts_1_F
  refine box_k (cs := a.cells.toArray) rfl fun w1 hb1 hm1 _ => ?_
  refine ldB (cs := a.cells.toArray) Tryd.underlying62 rfl iSt hb1 ?_
  refine CK_st Tryd.func75 rfl rfl (ih a ha w1 ((hg.mod hm).mod hm1) (((h.2 a ha).mod hm).mod hm1) (by have := St.szL_mem ha; omega)) ?_
  rintro _ w2 ⟨rfl, hm2⟩
  rw [not_ok]
  exact ⟨rfl, hm1.trans hm2⟩
theorem any_not_may_st (l : List St) : (!l.any fun a => !a.may) = St.mayL l := by
  rw [St.mayL_eq]
  induction l with
  | nil => rfl
  | cons a r ih => simp only [List.any_cons, List.all_cons, Bool.not_or, Bool.not_not, ih]
theorem St.len_sz (l : List St) : l.length ≤ St.szL l := by
  induction l with
  | nil => simp
  | cons a r ih => have := St.sz_pos a; simp only [St.szL, List.length_cons]; omega
theorem mayStmts_row {l : List St} (ih : ∀ a ∈ l, MaySt a) {w : World} (hg : Gl w) {s : Value} (h : StsOk w s l) (hsz : St.szL l ≤ 1099511627776) : Rt Tryd.prog 53 #[s] w fun v w' => v = .bool (St.mayL l) ∧ Mod none_ w w' := by
  refine tree_mayStmts_calls ?_
  unfold tree_mayStmts_F
  refine CK_st Tryd.func73 rfl rfl (ContainsFuncSt_ok h (by have := St.len_sz l; omega) (sts_call ih hg h hsz)) ?_
  rintro _ w2 ⟨rfl, hm2⟩
  rw [not_ok, any_not_may_st]
  exact ⟨rfl, hm2⟩
/-- What is asked behind the numbers of arguments. -/
def St.ask (e : St) (nm : Bool) (lo hi : Nat) : Bool :=
  (((((((((((((nm == !decide (e.name.size = 0)) && (!nm || nameP e.name)) && decide ((lo : Int) ≤ (e.exprs.length : Int))) && decide ((e.exprs.length : Int) ≤ (hi : Int))) && !e.exprs.any fun a => !a.may) && ((e.op == 8) || (e.kind == 0))) && ((e.red == 0) || (redsP e.kind && decide (e.red ≤ 2)))) &&
    decide (0 ≤ e.turns)) && decide (e.turns ≤ 1000)) && ((e.op == 5) || (e.turns == 0))) && ((e.op == 3) || ((e.els.length : Int) == 0))) && ((e.op == 3) || (e.op == 4) || (e.op == 5) || ((e.body.length : Int) == 0))) && St.mayL e.body) && St.mayL e.els
section
variable {e : St} {w w1 : World} (hok : e.Ok w) (hg : Gl w) (hsz : e.sz ≤ 1099511627776) (hm : Mod none_ w w1) (ih1 : ∀ a ∈ e.body, MaySt a) (ih2 : ∀ a ∈ e.els, MaySt a) {b1 : Nat} {ρ : Sl}
include hok hg hsz hm ih1 ih2
theorem mayS0 (hb1 : w1.heap[b1]? = some (.cells e.cells.toArray 62 (0, 0))) {nm : Bool} {lo hi : Nat} (h1 : ρ 1 = .pointer (some ⟨b1, 0, none⟩)) (h3 : ρ 3 = .bool nm) (h4 : ρ 4 = .int .i64 lo) (h5 : ρ 5 = .int .i64 hi) {z : Bool} (hz : St.ask e nm lo hi = z) :
    sx fn_ Tryd.prog 162 tree_mayStmt_R0 (retK Tryd.prog [ResultVar.tmp 2] fun v w' => v = .bool z ∧ Mod none_ w w') ρ w1 := by
  subst hz
  obtain ⟨A, c, hs, _⟩ := reads_cap hok.exprs.1
  obtain ⟨A2, c2, hs2, _⟩ := reads_cap hok.body.1
  obtain ⟨A3, c3, hs3, _⟩ := reads_cap hok.els.1
  have hszE : Ex.szL e.exprs ≤ 1099511627776 := by rw [St.sz_eq] at hsz; omega
  have hszB : St.szL e.body ≤ 1099511627776 := by rw [St.sz_eq] at hsz; omega
  have hszL : St.szL e.els ≤ 1099511627776 := by rw [St.sz_eq] at hsz; omega
  have cell : ∀ (w' : World), Mod none_ w1 w' → ∀ (j : Nat) v, e.cells[j]? = some v → w'.cell? ((⟨b1, 0, none⟩ : Addr).add j) = some v := fun w' hw j v hv => by
    rw [add_pl, cell_blk (hw.blk hb1 id), Nat.zero_add]
    simpa using hv
  have d0 : ∀ {w'}, Mod none_ w1 w' → FAt Tryd.prog w' 62 0 ⟨b1, 0, none⟩ 5 (.int .u8 e.op) := fun hw => FAt.mk' (off := 0) (by kernel_rfl) uU8 rfl (cell _ hw 0 _ rfl)
  have d1 : ∀ {w'}, Mod none_ w1 w' → FAt Tryd.prog w' 62 1 ⟨b1, 0, none⟩ 5 (.int .u8 e.kind) := fun hw => FAt.mk' (off := 1) (by kernel_rfl) uU8 rfl (cell _ hw 1 _ rfl)
  have d2 : ∀ {w'}, Mod none_ w1 w' → FAt Tryd.prog w' 62 2 ⟨b1, 0, none⟩ 5 (.int .u8 e.red) := fun hw => FAt.mk' (off := 2) (by kernel_rfl) uU8 rfl (cell _ hw 2 _ rfl)
  have d3 : ∀ {w'}, Mod none_ w1 w' → FAt Tryd.prog w' 62 3 ⟨b1, 0, none⟩ 9 (.string e.name) := fun hw => FAt.mk' (off := 3) (by kernel_rfl) uS rfl (cell _ hw 3 _ rfl)
  have d4 : ∀ {w'}, Mod none_ w1 w' → FAt Tryd.prog w' 62 4 ⟨b1, 0, none⟩ 3 (.int .i64 e.turns) := fun hw => FAt.mk' (off := 4) (by kernel_rfl) uI rfl (cell _ hw 4 _ rfl)
  have d5 : ∀ {w'}, Mod none_ w1 w' → FAt Tryd.prog w' 62 5 ⟨b1, 0, none⟩ 58 (.slice A e.exprs.length c) := fun hw => FAt.mk' (off := 5) (by kernel_rfl) uExs rfl (cell _ hw 5 _ (by rw [← hs]; rfl))
  have d6 : ∀ {w'}, Mod none_ w1 w' → FAt Tryd.prog w' 62 6 ⟨b1, 0, none⟩ 23 (.slice A2 e.body.length c2) := fun hw => FAt.mk' (off := 6) (by kernel_rfl) uSts rfl (cell _ hw 6 _ (by rw [← hs2]; rfl))
  have d7 : ∀ {w'}, Mod none_ w1 w' → FAt Tryd.prog w' 62 7 ⟨b1, 0, none⟩ 23 (.slice A3 e.els.length c3) := fun hw => FAt.mk' (off := 7) (by kernel_rfl) uSts rfl (cell _ hw 7 _ (by rw [← hs3]; rfl))
  have r0 := Mod.refl none_ w1
  rw [tree_mayStmt_R0_eqR]
  unfold tree_mayStmt_R0_FR
  simp only [h1, h3, h4, h5]
  refine (d3 r0).vk ?_
  rw [BK_neqS, ByteArray.toList_eq, ByteArray.toList_eq, empty_iff, BK_eqlB (by kernel_rfl)]
  refine fA0 (d3 r0) (r := nameP e.name) (fun K hk => CK_st Tryd.func50 rfl rfl (Name_ok (hg.mod hm) e.name hok.fine.2.2.2.1) (fun v w' hv => by rw [hv.1]; exact hk w' hv.2)) fun w2 m2 => ?_
  refine fA2 (d5 m2) uExs (fun K => BK_geq _ _ _ _ _ _) ?_
  refine fA2 (d5 m2) uExs (fun K => BK_leq _ _ _ _ _ _) ?_
  have hE : ExsOk w2 (.slice A e.exprs.length c) e.exprs := by rw [← hs]; exact (hok.exprs.mod hm).mod m2
  refine fA3 (d5 m2) (r := e.exprs.any fun a => !a.may) (fun K hk => CK_st Tryd.func94 rfl rfl (ContainsFuncEx_ok hE (by have := Ex.len_sz e.exprs; omega) (exs_call ((hg.mod hm).mod m2) hE hszE)) (fun v w' hv => by rw [hv.1]; exact hk w' hv.2)) fun w3 m3 => ?_
  have m13 := m2.trans m3
  refine fA4 (d0 m13) (fun K => BK_eql _ _ _ _ _ _) (d1 m13) (fun K => BK_eql _ _ _ _ _ _) ?_
  refine fA7 (d2 m13) (fun K => BK_eql _ _ _ _ _ _) (d1 m13) (r2 := redsP e.kind) (fun K hk => CK_st Tryd.func97 rfl rfl (reduces_ok e.kind w3) (fun v w' hv => by rw [hv.1, hv.2]; exact hk)) (fun K => BK_leq _ _ _ _ _ _) ?_
  refine fA1 (d4 m13) (fun K => BK_geq _ _ _ _ _ _) ?_
  refine fA1 (d4 m13) (fun K => BK_leq _ _ _ _ _ _) ?_
  refine fA4 (d0 m13) (fun K => BK_eql _ _ _ _ _ _) (d4 m13) (fun K => BK_eql _ _ _ _ _ _) ?_
  refine fA5 (d0 m13) (fun K => BK_eql _ _ _ _ _ _) (d7 m13) uSts (fun K => BK_eql _ _ _ _ _ _) ?_
  refine fA6 (d0 m13) (fun K => BK_eql _ _ _ _ _ _) (fun K => BK_eql _ _ _ _ _ _) (fun K => BK_eql _ _ _ _ _ _) (d6 m13) uSts (fun K => BK_eql _ _ _ _ _ _) ?_
  have hB : StsOk w3 (.slice A2 e.body.length c2) e.body := by rw [← hs2]; exact (hok.body.mod hm).mod m13
  refine fA8 (d6 m13) (r := St.mayL e.body) (fun K hk => CK_st Tryd.func53 rfl rfl (mayStmts_row ih1 ((hg.mod hm).mod m13) hB hszB) (fun v w' hv => by rw [hv.1]; exact hk w' hv.2)) fun w4 m4 => ?_
  have m14 := m13.trans m4
  have hL : StsOk w4 (.slice A3 e.els.length c3) e.els := by rw [← hs3]; exact (hok.els.mod hm).mod m14
  refine fA8 (d7 m14) (r := St.mayL e.els) (fun K hk => CK_st Tryd.func53 rfl rfl (mayStmts_row ih2 ((hg.mod hm).mod m14) hL hszL) (fun v w' hv => by rw [hv.1]; exact hk w' hv.2)) fun w5 m5 => ?_
  exact ⟨rfl, (hm.trans m14).trans m5⟩
end
end Go.Proofs.YtbnbcimjapiicaaDoor.Tr
