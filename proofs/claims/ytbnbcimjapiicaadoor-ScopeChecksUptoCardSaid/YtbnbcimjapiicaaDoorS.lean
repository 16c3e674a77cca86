/- The chapter's May. -/
import Derived.Test.YtbnbcimjapiicaaDoorR
set_option linter.unusedVariables false
set_option linter.unusedSimpArgs false
set_option maxRecDepth 4000
namespace Go.Proofs.YtbnbcimjapiicaaDoor.Tr
open Go Go.X Go.RowKit Go.Proofs.YtbnbcimjapiicaaDoor.XF Go.Proofs.YtbnbcimjapiicaaDoor.XK

theorem len_gt (n : Nat) : decide ((0 : Int) < (n : Int)) = !decide (n = 0) := by
  by_cases q : n = 0
  · rw [decide_eq_true q, q]; rfl
  · rw [decide_eq_false q, decide_eq_true (by omega)]; rfl
theorem fields_ok {w : World} {e : St} (hok : e.Ok w) : Rt Tryd.prog 78 #[.agg e.cells.toArray] w fun v w' => v = .bool (fieldsB e) ∧ Mod none_ w w' := by
  obtain ⟨A2, c2, hs2, _⟩ := reads_cap hok.body.1
  obtain ⟨A3, c3, hs3, _⟩ := reads_cap hok.els.1
  have hp := fields_pure e hok.fine
  refine dispatcherref02_fields_calls ?_
  unfold dispatcherref02_fields_F
  refine box_k (cs := e.cells.toArray) rfl fun w1 hb1 hm1 hs1 => ?_
  have cell : ∀ (w' : World), Mod none_ w1 w' → ∀ (j : Nat) v, e.cells[j]? = some v → w'.cell? ((⟨w.heap.size, 0, none⟩ : Addr).add j) = some v := fun w' hw j v hv => by
    rw [add_pl, cell_blk (hw.blk hb1 id), Nat.zero_add]
    simpa using hv
  have d0 : ∀ {w'}, Mod none_ w1 w' → FAt Tryd.prog w' 62 0 ⟨w.heap.size, 0, none⟩ 5 (.int .u8 e.op) := fun hw => FAt.mk' (off := 0) (by kernel_rfl) uU8 rfl (cell _ hw 0 _ rfl)
  have d1 : ∀ {w'}, Mod none_ w1 w' → FAt Tryd.prog w' 62 1 ⟨w.heap.size, 0, none⟩ 5 (.int .u8 e.kind) := fun hw => FAt.mk' (off := 1) (by kernel_rfl) uU8 rfl (cell _ hw 1 _ rfl)
  have d2 : ∀ {w'}, Mod none_ w1 w' → FAt Tryd.prog w' 62 2 ⟨w.heap.size, 0, none⟩ 5 (.int .u8 e.red) := fun hw => FAt.mk' (off := 2) (by kernel_rfl) uU8 rfl (cell _ hw 2 _ rfl)
  have d3 : ∀ {w'}, Mod none_ w1 w' → FAt Tryd.prog w' 62 3 ⟨w.heap.size, 0, none⟩ 9 (.string e.name) := fun hw => FAt.mk' (off := 3) (by kernel_rfl) uS rfl (cell _ hw 3 _ rfl)
  have d4 : ∀ {w'}, Mod none_ w1 w' → FAt Tryd.prog w' 62 4 ⟨w.heap.size, 0, none⟩ 3 (.int .i64 e.turns) := fun hw => FAt.mk' (off := 4) (by kernel_rfl) uI rfl (cell _ hw 4 _ rfl)
  have d6 : ∀ {w'}, Mod none_ w1 w' → FAt Tryd.prog w' 62 6 ⟨w.heap.size, 0, none⟩ 23 (.slice A2 e.body.length c2) := fun hw => FAt.mk' (off := 6) (by kernel_rfl) uSts rfl (cell _ hw 6 _ (by rw [← hs2]; rfl))
  have d7 : ∀ {w'}, Mod none_ w1 w' → FAt Tryd.prog w' 62 7 ⟨w.heap.size, 0, none⟩ 23 (.slice A3 e.els.length c3) := fun hw => FAt.mk' (off := 7) (by kernel_rfl) uSts rfl (cell _ hw 7 _ (by rw [← hs3]; rfl))
  have r0 := Mod.refl none_ w1
  refine (d0 r0).vk ?_
  rw [BK_eql]
  refine fO (d0 r0) (fun K => BK_eql _ _ _ _ _ _) ?_
  refine fO (d0 r0) (fun K => BK_eql _ _ _ _ _ _) ?_
  refine (d0 r0).vk ?_
  rw [BK_eql]
  refine fO (d0 r0) (fun K => BK_eql _ _ _ _ _ _) ?_
  refine fO (d0 r0) (fun K => BK_eql _ _ _ _ _ _) ?_
  refine fN (d3 r0) (r := nameP e.name) (fun K hk => CK_st Tryd.func20 rfl rfl (NameR_ok w1 e.name hok.fine.2.2.2.1) (fun v w' hv => by rw [hv.1]; exact hk w' hv.2)) fun w2 m2 => ?_
  refine fB1 (d3 m2) (r := !decide (e.name.size = 0)) (fun K => by rw [BK_neqS, ByteArray.toList_eq, ByteArray.toList_eq, empty_iff]) ?_
  refine fB2 (d6 m2) uSts (r := !decide (e.body.length = 0)) (fun K => by rw [BK_gtr, len_gt]) ?_
  refine fB3 (d0 m2) (r := !decide (e.op = 3)) (fun K => by rw [BK_neq, bne_dec]) (d7 m2) uSts (r2 := !decide (e.els.length = 0)) (fun K => by rw [BK_gtr, len_gt]) ?_
  simp only [beq_dec]
  have hmm := hm1.trans m2
  dsimp only at hp
  refine caseC (fun h1 => ?_) (fun h1 => ?_)
  · rw [h1] at hp
    exact ⟨by rw [← hp]; rfl, hmm⟩
  rw [h1] at hp
  refine (d0 m2).vk ?_
  rw [BK_neq, bne_dec]
  refine fA4 (d1 m2) (r := !decide (e.kind = 0)) (fun K => by rw [BK_neq, bne_dec]) (d2 m2) (r2 := !decide (e.red = 0)) (fun K => by rw [BK_neq, bne_dec]) ?_
  refine fB4 (d0 m2) (r := decide (e.op = 8)) (fun K => by rw [BK_eql, beq_dec]) (d2 m2) (r2 := !decide (e.red ≤ 0)) (fun K => by rw [BK_gtr, lt_dec]) (d1 m2) (r3 := redsP e.kind) (fun K hk => CK_st Tryd.func99 rfl rfl (Reduces_ok e.kind w2) (fun v w' hv => by rw [hv.1, hv.2]; exact hk)) (r4 := !decide (e.red ≤ 2)) (fun K => by rw [BK_gtr, lt_dec]) ?_
  refine caseC (fun h2 => ?_) (fun h2 => ?_)
  · rw [h2] at hp
    exact ⟨by rw [← hp]; rfl, hmm⟩
  rw [h2] at hp
  refine (d4 m2).vk ?_
  rw [BK_eql, beq_dec]
  refine fB5 (d0 m2) (r := decide (e.op = 5)) (fun K => by rw [BK_eql, beq_dec]) (d4 m2) (r2 := !decide (e.turns ≤ 0)) (fun K => by rw [BK_gtr, lt_dec]) (r3 := decide (e.turns ≤ 1000)) (fun K => BK_leq _ _ _ _ _ _) ?_
  exact ⟨by rw [← hp]; rfl, hmm⟩
end Go.Proofs.YtbnbcimjapiicaaDoor.Tr
